/-
  The document's reader: rows, by what its value comes to (walk). Not a statement of the seat.
-/
import Derived.Test.YtofpdhkdnbnobaaDoorRQuot
import Derived.Test.YtofpdhkdnbnobaaDoorLaw1
namespace Go.Proofs.YtofpdhkdnbnobaaDoor
open Go.RowKit

/-- the document's reader has met no value -/
def RBad (rb : Nat) (S : ByteArray) (D : Nat) (w w' : World) : Prop := ∃ a' D' n', Rr w' rb S a' D' n' true ∧ a' ≤ S.size + 1 ∧ D ≤ D' ∧ D' ≤ 17 ∧ Kept (N1 rb) w w'
/-- it stands at a hex digit -/
def RStuck (rb : Nat) (S : ByteArray) (D : Nat) (w w' : World) : Prop := ∃ b n', Rr w' rb S b D n' false ∧ b < S.size ∧ 0 ≤ Go.Lib.indexByte hexD (nx S.data.toList b) ∧ Kept (N1 rb) w w'
def VS (e : Ending) : Prop := ∃ k i b t l m c, e = .returned (.agg #[.int .i64 k, .int .i64 i, .int .u64 b, .string t, .slice l m c])
def RS (e : Ending) : Prop := ∃ l m c, e = .returned (.slice l m c)
/-- what the document's value comes to: N values are counted with this one -/
def RVP (rb : Nat) (S : ByteArray) (D N : Nat) (w : World) (res : Res Dt) (e : Ending) (w' : World) : Prop :=
  match res with
  | .out => True
  | .ok d b => (N + sizeF d.l ≤ 4096 ∧ ∃ l m c, e = .returned (.agg #[.int .i64 d.k, .int .i64 d.i, .int .u64 d.b, .string ⟨d.t.toArray⟩, .slice l m c]) ∧ FoAt (fun x => w.heap.size ≤ x) w' d.l l m c ∧ Rr w' rb S b D (N + sizeF d.l) false ∧ b ≤ S.size ∧ Kept (N1 rb) w w') ∨
      (4096 < N + sizeF d.l ∧ VS e ∧ RBad rb S D w w')
  | .bad => VS e ∧ (RBad rb S D w w' ∨ RStuck rb S D w w')
/-- what rows comes to: N values are counted ahead -/
def RRP (rb : Nat) (S : ByteArray) (D N : Nat) (w : World) (res : Res Fo) (e : Ending) (w' : World) : Prop :=
  match res with
  | .out => True
  | .ok g b => (N + sizeF g ≤ 4096 ∧ ∃ l m c, e = .returned (.slice l m c) ∧ FoAt (fun x => w.heap.size ≤ x) w' g l m c ∧ Rr w' rb S b D (N + sizeF g) false ∧ b ≤ S.size ∧ Kept (N1 rb) w w') ∨
      (4096 < N + sizeF g ∧ RS e ∧ RBad rb S D w w')
  | .bad => RS e ∧ RBad rb S D w w'
def RVOK (S : ByteArray) (f : Nat) : Prop := ∀ (rb a D N : Nat) (w : World), Rr w rb S a D N false → a ≤ S.size → D ≤ 16 → N ≤ 4096 → Lb w → 7 ≤ rb → valueM S.data.toList f D a ≠ .out →
  Calls Tryd.prog 41 #[.pointer (some ⟨rb, 0, none⟩)] w (RVP rb S D (N + 1) w (valueM S.data.toList f D a))
/-- a row behind its start -/
def rowV (S : Bs) (f D a : Nat) (e : Bs) (acc : Fo) : Res Fo :=
  match valueM S f D a with
  | .ok d a' => rowM S f D a' e (acc.app d.fo)
  | .bad => .bad
  | .out => .out
theorem rowM_step (S : Bs) (f D a : Nat) (e : Bs) (acc : Fo) : rowM S (f + 1) D a e acc =
    if hasM S a e then .ok acc (a + e.length) else if acc.len = 0 then rowV S f D a e acc else if hasM S a [44, 32] then rowV S f D (a + 2) e acc else .bad := by
  rw [rowM]
  rfl
theorem sizeF_app : ∀ (f g : Fo), sizeF (f.app g) = sizeF f + sizeF g
  | .nil, g => by simp [Fo.app, sizeF]
  | .cons _ _ _ _ k r, g => by simp only [Fo.app, sizeF, sizeF_app r g]; omega
theorem sizeF_fo (d : Dt) : sizeF d.fo = 1 + sizeF d.l := by simp [Dt.fo, sizeF]
theorem len_size : ∀ (f : Fo), f.len ≤ sizeF f
  | .nil => Nat.le_refl _
  | .cons _ _ _ _ k r => by have := len_size r; simp only [Fo.len, sizeF]; omega
/-- a row that is read goes on what is read already -/
theorem rowM_more (S : Bs) : ∀ (f D a : Nat) (e : Bs) (acc g : Fo) (b : Nat), rowM S f D a e acc = .ok g b → sizeF acc ≤ sizeF g
  | 0, D, a, e, acc, g, b, h => by simp [rowM] at h
  | f + 1, D, a, e, acc, g, b, h => by
    rw [rowM_step] at h
    unfold rowV at h
    split at h
    · cases h; exact Nat.le_refl _
    · split at h
      · split at h
        · have := rowM_more S f _ _ _ _ _ _ h
          rw [sizeF_app] at this
          omega
        · cases h
        · cases h
      · split at h
        · split at h
          · have := rowM_more S f _ _ _ _ _ _ h
            rw [sizeF_app] at this
            omega
          · cases h
          · cases h
        · cases h
/-- none, or too many -/
def RNone (res : Res Fo) (N : Nat) : Prop := res = .bad ∨ ∃ g b, res = .ok g b ∧ 4096 < N + sizeF g
theorem rnone_bad {rb D N : Nat} {S : ByteArray} {w w' : World} {res : Res Fo} {e : Ending} (h : RNone res N) (he : RS e) (hb : RBad rb S D w w') : RRP rb S D N w res e w' := by
  rcases h with rfl | ⟨g, b, rfl, h⟩
  · exact ⟨he, hb⟩
  · exact .inr ⟨h, he, hb⟩
theorem rnone_of {S : Bs} {f D a N : Nat} {e : Bs} {acc : Fo} {d : Dt} {res : Res Fo} {b : Nat} (hv : valueM S f D a = .ok d b) (hq : rowV S f D a e acc = res) (ho : res ≠ .out) (h : 4096 < N + (sizeF acc + (1 + sizeF d.l))) : RNone res N := by
  unfold rowV at hq
  rw [hv] at hq
  simp only at hq
  cases res with
  | out => exact absurd rfl ho
  | bad => exact .inl rfl
  | ok g b =>
    have := rowM_more S _ _ _ _ _ _ _ hq
    rw [sizeF_app, sizeF_fo] at this
    exact .inr ⟨g, b, rfl, by omega⟩
/-- between two rounds of rows -/
def RW (rb : Nat) (S : ByteArray) (D N : Nat) (t : Bs) (w : World) (res : Res Fo) (f : Nat) (t5 : Value) (wr : World) : Prop :=
  ∃ l m cap, t5 = .slice l m cap ∧
    ((∃ a acc cs, acc.len = m ∧ a ≤ S.size ∧ Row w.heap.size wr 5 l m cap cs ∧ Kept (N1 rb) w wr ∧ At (fun x => w.heap.size ≤ x ∧ blockOf l ≠ some x) wr acc cs ∧ Rr wr rb S a D (N + sizeF acc) false ∧ N + sizeF acc ≤ 4096 ∧ rowV S.data.toList f D a t acc = res)
      ∨ (RBad rb S D w wr ∧ RNone res N))

/-- behind a value that is well, and its append -/
theorem rw_next {rb D N n cap c4 b : Nat} {S : ByteArray} {w wr wv w4 : World} {l a4 : Option Addr} {cs : List Value} {acc : Fo} {d : Dt} {lv : Option Addr} {nv cv : Nat} {ob : Obj}
    (hRow : Row w.heap.size wr 5 l n cap cs) (hK : Kept (N1 rb) w wr) (hAt : At (fun x => w.heap.size ≤ x ∧ blockOf l ≠ some x) wr acc cs) (hrb : rb < w.heap.size)
    (hF : FoAt (fun x => wr.heap.size ≤ x) wv d.l lv nv cv) (hRv : Rr wv rb S b D N false) (hKv : Kept (N1 rb) wr wv)
    (hrow : Row w.heap.size w4 5 a4 (n + 1) c4 (cs ++ V5 d.k d.i d.b ⟨d.t.toArray⟩ lv nv cv)) (hgr : (wv.alloc ob).grownBy w4 (blockOf l)) (hbk : blockOf a4 = blockOf l ∨ blockOf a4 = some (wv.alloc ob).heap.size) :
    Kept (N1 rb) w w4 ∧ At (fun x => w.heap.size ≤ x ∧ blockOf a4 ≠ some x) w4 (acc.app d.fo) (cs ++ V5 d.k d.i d.b ⟨d.t.toArray⟩ lv nv cv) ∧ Rr w4 rb S b D N false := by
  have hl : ∀ x, blockOf l = some x → w.heap.size ≤ x ∧ x < wr.heap.size := fun x e => hRow.lt x e
  have hs2 := hKv.size
  have hs0 := hK.size
  have hsz : (wv.alloc ob).heap.size = wv.heap.size + 1 := by simp
  have hall : Below wv.heap.size wv (wv.alloc ob) := (Below.refl _ _).alloc (Nat.le_refl _) _
  have h5 : ∀ x, x < wv.heap.size → blockOf l ≠ some x → w4.heap[x]? = wv.heap[x]? := fun x hx hne => by
    rw [hgr.block x (by omega) (fun e => hne e.symm), hall.block x hx]
  have hS : ∀ x, x < wv.heap.size → blockOf l ≠ some x → blockOf a4 ≠ some x := fun x hx hne e => by
    rcases hbk with h | h
    · exact hne (h ▸ e)
    · rw [h] at e; cases e; omega
  refine ⟨((hK.trans hKv).calm hall).grown hgr (fun x e hlt => by have := (hl x e).1; omega), ?_, ?_⟩
  · refine At.app acc ?_ ?_
    · refine At.same acc hAt (fun x hx hlt => ?_) (fun x hx hlt => ⟨hx.1, hS x (by omega) hx.2⟩)
      rw [h5 x (by omega) hx.2]
      exact hKv.block x hlt (fun e => by unfold N1 at e; omega)
    · obtain ⟨ks, ⟨h1, h2⟩, h3⟩ := hF
      have hsame : ∀ x, wr.heap.size ≤ x → x < wv.heap.size → w4.heap[x]? = wv.heap[x]? := fun x h hx => h5 x hx (fun e => by have := (hl x e).2; omega)
      refine ⟨lv, nv, cv, ks, [], rfl, ⟨h1.same0 (fun x hn hx hlt => hsame x (h2 x hn hx) hlt), fun x hn hx => ?_⟩, At.same d.l h3 hsame (fun x hx hlt => ⟨by omega, hS x hlt (fun e => by have := (hl x e).2; omega)⟩), rfl⟩
      have h4 := h2 x hn hx
      have hlt : x < wv.heap.size := by
        rcases h1.2.2.2 with ⟨h, _⟩ | ⟨b0, off, rfl, hlt, _⟩
        · omega
        · cases hx; exact hlt
      exact ⟨by omega, hS x hlt (fun e => by have := (hl x e).2; omega)⟩
  · exact Blk.grown (Blk.below hRv hall) hgr (fun e => by have := (hl rb e).1; omega)
/-- .. that is none, or stuck -/
theorem rw_bad {rb a D' N n cap : Nat} {S : ByteArray} {w wr wv w4 : World} {l : Option Addr} {cs : List Value} {ob : Obj} {bad : Bool}
    (hRow : Row w.heap.size wr 5 l n cap cs) (hK : Kept (N1 rb) w wr) (hrb : rb < w.heap.size) (hKv : Kept (N1 rb) wr wv) (hRv : Rr wv rb S a D' N bad)
    (hgr : (wv.alloc ob).grownBy w4 (blockOf l)) : Kept (N1 rb) w w4 ∧ Rr w4 rb S a D' N bad := by
  have hl : ∀ x, blockOf l = some x → w.heap.size ≤ x ∧ x < wr.heap.size := fun x e => hRow.lt x e
  have hall : Below wv.heap.size wv (wv.alloc ob) := (Below.refl _ _).alloc (Nat.le_refl _) _
  exact ⟨((hK.trans hKv).calm hall).grown hgr (fun x e hlt => by have := (hl x e).1; omega), Blk.grown (Blk.below hRv hall) hgr (fun e => by have := (hl rb e).1; omega)⟩
theorem hasM_in {S t : ByteArray} {a : Nat} (ht : 0 < t.size) (h : hasM S.data.toList a t.data.toList = true) : a + t.size ≤ S.size := by
  rw [Lib.size_eq S, Lib.size_eq t]
  rcases hasM_len h with h1 | h1
  · exact h1
  · rw [Lib.size_eq t, h1] at ht
    simp at ht
theorem Kept.foAt {rb : Nat} {w w1 w2 : World} {g : Fo} {l : Option Addr} {n c : Nat} (h : FoAt (fun x => w.heap.size ≤ x) w1 g l n c) (hrb : rb < w.heap.size) (k : Kept (N1 rb) w1 w2) : FoAt (fun x => w.heap.size ≤ x) w2 g l n c :=
  h.same (fun x hx hlt => k.block x hlt (fun e => by unfold N1 at e; omega)) (fun _ hx _ => hx)

/-- the reader has met no value, or stands at a hex digit -/
def RNot (rb : Nat) (S : ByteArray) (D : Nat) (w w' : World) : Prop := ∃ a' D' n' bad, Rr w' rb S a' D' n' bad ∧ a' ≤ S.size + 1 ∧ D ≤ D' ∧ D' ≤ 17 ∧ Kept (N1 rb) w w' ∧ (bad = true ∨ (bad = false ∧ a' < S.size ∧ 0 ≤ Go.Lib.indexByte hexD (nx S.data.toList a')))
theorem rnot_bad {rb D : Nat} {S : ByteArray} {w w' : World} (h : RBad rb S D w w') : RNot rb S D w w' := by
  obtain ⟨a, D', n', h1, h2, h3, h4, h5⟩ := h
  exact ⟨a, D', n', true, h1, h2, h3, h4, h5, .inl rfl⟩
theorem rnot_stuck {rb D : Nat} {S : ByteArray} {w w' : World} (h : RStuck rb S D w w') (hD : D ≤ 16) : RNot rb S D w w' := by
  obtain ⟨a, n', h1, h2, h3, h4⟩ := h
  exact ⟨a, D, n', false, h1, by omega, Nat.le_refl _, by omega, h4, .inr ⟨rfl, h2, h3⟩⟩
theorem rnot_of {rb D N : Nat} {S : ByteArray} {w w' : World} {e : Ending} (h : RVP rb S D N w .bad e w') (hD : D ≤ 16) : VS e ∧ RNot rb S D w w' := by
  obtain ⟨h1, h2 | h2⟩ := h
  · exact ⟨h1, rnot_bad h2⟩
  · exact ⟨h1, rnot_stuck h2 hD⟩
theorem rmany_of {rb D N b : Nat} {d : Dt} {S : ByteArray} {w w' : World} {e : Ending} (h : RVP rb S D N w (.ok d b) e w') (hs : ¬ N + sizeF d.l ≤ 4096) : VS e ∧ RNot rb S D w w' := by
  rcases h with h | ⟨_, h1, h2⟩
  · exact absurd h.1 hs
  · exact ⟨h1, rnot_bad h2⟩
theorem rwell_of {rb D N b : Nat} {d : Dt} {S : ByteArray} {w w' : World} {e : Ending} (h : RVP rb S D N w (.ok d b) e w') (hs : N + sizeF d.l ≤ 4096) :
    ∃ l m c, e = .returned (.agg #[.int .i64 d.k, .int .i64 d.i, .int .u64 d.b, .string ⟨d.t.toArray⟩, .slice l m c]) ∧ FoAt (fun x => w.heap.size ≤ x) w' d.l l m c ∧ Rr w' rb S b D (N + sizeF d.l) false ∧ b ≤ S.size ∧ Kept (N1 rb) w w' := by
  rcases h with h | ⟨h1, _⟩
  · exact h.2
  · omega
theorem At.keep1 {w w' : World} {B rb : Nat} {l : Option Addr} {g : Fo} {cs : List Value} (h : At (fun x => B ≤ x ∧ blockOf l ≠ some x) w g cs) (hrb : rb < B) (k : Kept (N1 rb) w w') : At (fun x => B ≤ x ∧ blockOf l ≠ some x) w' g cs :=
  At.same g h (fun x hx hlt => k.block x hlt (fun e => by unfold N1 at e; omega)) (fun x hx _ => hx)
theorem valueM_pos {S : Bs} {f D a : Nat} (h : valueM S f D a ≠ .out) : 0 < f := by
  cases f with
  | zero => exact absurd rfl h
  | succ f => omega
theorem hex_no44 {L : Bs} {a : Nat} (h : 0 ≤ Go.Lib.indexByte hexD (nx L a)) : hasM L a [44, 32] = false := by
  rw [hasM_cons (by decide)]
  by_cases h2 : nx L a = 44
  · rw [h2] at h
    exact absurd h (by decide)
  · simp [h2]

set_option maxHeartbeats 8000000 in
set_option maxRecDepth 100000 in
/-- rows of a reader that has met no value -/
theorem rrowsB {rb a D D' N : Nat} {S t : ByteArray} {w : World} (h : Rr w rb S a D' N true) (ha : a ≤ S.size + 1) (hS : S.size ≤ 1000000000000) (ht : 0 < t.size) (ht9 : t.size ≤ 1000) (hD : D ≤ D') (hD7 : D' ≤ 17) :
    Calls Tryd.prog 92 #[.pointer (some ⟨rb, 0, none⟩), .string t] w (fun e w' => RS e ∧ RBad rb S D w w') := by
  cases hm : hasM S.data.toList a t.data.toList
  · have HC := Lib.hid (wordF h (by omega) hS ht ht9 hm)
    clear h
    go_enter Tryd.func92, Tryd.ntmps92
    go_wp2_with (go_at_call 88; (with_reducible refine HC.out.mono ?_); rintro e w1 ⟨rfl, hR1, hK1⟩; have c4 := hR1.cell 4 rfl)
    go_loopw [5] (fun t wr => t = .slice none 0 0 ∧ wr = w1) (fun _ _ => 0)
    case atStart => exact ⟨rfl, rfl⟩
    case round =>
      obtain ⟨rfl, rfl⟩ := hrel
      go_wp2_with fail
      go_ret
      exact ⟨⟨_, _, _, rfl⟩, _, _, _, hR1, ha, hD, hD7, hK1⟩
  · have he : a + t.size ≤ S.size + 1 := Nat.le_succ_of_le (hasM_in ht hm)
    have HC := Lib.hid (wordT h (by omega) hS ht ht9 hm)
    clear h
    go_enter Tryd.func92, Tryd.ntmps92
    go_wp2_with (go_at_call 88; (with_reducible refine HC.out.mono ?_); rintro e w1 ⟨rfl, hR1, hK1⟩)
    go_ret
    exact ⟨⟨_, _, _, rfl⟩, _, _, _, hR1, he, hD, hD7, hK1⟩

set_option maxHeartbeats 8000000 in
set_option maxRecDepth 100000 in
theorem rrowsN {S : ByteArray} {f : Nat} (hS : S.size ≤ 1000000000000) (hV : ∀ g, g < f → RVOK S g) (rb a0 D N : Nat) (t : ByteArray) (w : World) (h : Rr w rb S a0 D N false) (ha0 : a0 ≤ S.size) (hD : D ≤ 16) (hN : N ≤ 4096) (hL : Lb w) (hrb7 : 7 ≤ rb)
    (ht : 0 < t.size) (ht9 : t.size ≤ 1000) (hend : ∀ b, 0 ≤ Go.Lib.indexByte hexD (nx S.data.toList b) → hasM S.data.toList b t.data.toList = false) (ho : rowM S.data.toList f D a0 t.data.toList .nil ≠ .out) :
    Calls Tryd.prog 92 #[.pointer (some ⟨rb, 0, none⟩), .string t] w (RRP rb S D N w (rowM S.data.toList f D a0 t.data.toList .nil)) := by
  obtain ⟨i0, hi, hy0, hy1, hy2⟩ := info_parts datumInfo
  generalize hq : rowM S.data.toList f D a0 t.data.toList .nil = res at *
  have hrb : rb < w.heap.size := h.lt
  cases f with
  | zero => exact absurd hq.symm ho
  | succ f0 =>
  rw [rowM_step] at hq
  have HO := Lib.hid ho
  have HVOK := Lib.hid hV
  have HLB0 := Lib.hid hL
  have HEND := Lib.hid hend
  clear ho hV hL hend
  cases hm : hasM S.data.toList a0 t.data.toList
  · rw [hm, if_neg (by simp), if_pos (show Fo.nil.len = 0 from rfl)] at hq
    have HQ := Lib.hid hq
    have HC := Lib.hid (wordF h (by omega) hS ht ht9 hm)
    clear h hq hm
    go_enter Tryd.func92, Tryd.ntmps92
    go_wp2_with (go_at_call 88; (with_reducible refine HC.out.mono ?_); rintro e w1 ⟨rfl, hR1, hK1⟩)
    have H0 := Lib.hid (show ∃ g, RW rb S D N t.data.toList w res g (.slice none 0 0) w1 ∧ g ≤ f0 from ⟨f0, ⟨none, 0, 0, rfl, .inl ⟨a0, .nil, [], rfl, ha0, Row.nil _ _ _, hK1, rfl, hR1, hN, HQ.out⟩⟩, Nat.le_refl _⟩)
    clear hR1 hK1 HQ HC ha0 hN
    go_loopw [5] (fun t5 wr => ∃ g, RW rb S D N t.data.toList w res g t5 wr ∧ g ≤ f0) (fun t5 wr => least (fun g => RW rb S D N t.data.toList w res g t5 wr))
    case atStart => exact H0.out
    case round =>
      obtain ⟨g9, hg9, hle9, hgf⟩ : ∃ g, RW rb S D N t.data.toList w res g u5 wr ∧ g ≤ least (fun g => RW rb S D N t.data.toList w res g u5 wr) ∧ g ≤ f0 := by
        obtain ⟨g, hg, hgf⟩ := hrel
        exact ⟨least _, least_spec (R := fun g => RW rb S D N t.data.toList w res g u5 wr) ⟨g, hg⟩, Nat.le_refl _, Nat.le_trans (least_le hg) hgf⟩
      have HLE := Lib.hid hle9
      obtain ⟨l, n, cap, rfl, hmode⟩ := hg9
      clear hrel hle9 H0
      rcases hmode with ⟨a, acc, cs, hacc, ha, hrow, hK, hAt, hR, hN, hq⟩ | ⟨hbad, hnone⟩
      · have c4 := hR.cell 4 rfl
        have HROW := Lib.hid hrow
        have HK := Lib.hid hK
        have HLB := Lib.hid (HLB0.out.keep1 hK hrb7)
        have HAT := Lib.hid hAt
        have HACC := Lib.hid hacc
        have hn : n ≤ 4096 := by have := len_size acc; omega
        have HV9 := HVOK.out g9 (by omega) rb a D (N + sizeF acc) wr hR ha hD hN HLB.out hrb7
        clear hrow hK hAt hR hacc
        cases hvm : valueM S.data.toList g9 D a with
        | out => unfold rowV at hq; rw [hvm] at hq; exact absurd hq.symm HO.out
        | ok d b =>
          have hpos : 0 < g9 := valueM_pos (S := S.data.toList) (D := D) (a := a) (by rw [hvm]; simp)
          have HV9 := HV9 (by rw [hvm]; simp)
          rw [hvm] at HV9
          by_cases hsz : N + sizeF acc + 1 + sizeF d.l ≤ 4096
          · unfold rowV at hq
            rw [hvm] at hq
            simp only at hq
            have HVC := Lib.hid (HV9.mono (fun e w' h => rwell_of h hsz))
            obtain ⟨n9, hn9⟩ : ∃ n9, n9 = N + sizeF acc + 1 + sizeF d.l := ⟨_, rfl⟩
            rw [← hn9] at HVC
            have HQ0 := Lib.hid hq
            have HN9 := Lib.hid hn9
            have HSZ := Lib.hid hsz
            clear hq hn9 hsz HV9 hvm
            go_upto_region 6 with (first
              | (go_at_call 41; (with_reducible refine HVC.out.mono ?_); rintro e wv ⟨lv, nv, cv, rfl, hF, hRv, hbv, hKv⟩
                 have HF := Lib.hid hF; have HRV := Lib.hid hRv; have HKV := Lib.hid hKv
                 have HR9 := fun o => Lib.hid ((HROW.out.keep1 hKv hrb).alloc o)
                 have HL9 := Lib.hid (show w.heap.size ≤ wv.heap.size from Nat.le_trans HK.out.size hKv.size)
                 have HS9 := Lib.hid (Src.oneRow (P := Tryd.prog) (w := wv) (tx := 23) Tryd.underlying23 (V5 d.k d.i d.b ⟨d.t.toArray⟩ lv nv cv) _ 25 (g := wv.heap.size) rfl rfl rfl (V5_one _ _ _ _ _ _ _))
                 clear hF hRv hKv)
              | (at_builtin; refine wpList_append_row rfl _ _ 23 23 rfl 25 i0 (.agg #[.int .i64 0, .int .i64 0, .int .u64 0, .string ⟨#[]⟩, .slice none 0 0]) 5 64 Tryd.underlying23 hi hy0 hy1 hy2 rfl rfl (HR9 _).out 1 _ HS9.out (by unfold maxLen; omega) (by omega) (by have := HL9.out; simp; omega) ?_; intro a4 c4 w4 hrow hgr hbk4; have HRW := Lib.hid hrow; have HG4 := Lib.hid hgr; have HB4 := Lib.hid hbk4; clear hrow hgr hbk4))
            obtain ⟨hK4, hA4, hR4⟩ := rw_next HROW.out HK.out HAT.out hrb HF.out HRV.out HKV.out HRW.out HG4.out HB4.out
            have HK4 := Lib.hid hK4
            have HAT4 := Lib.hid hA4
            have HR4 := Lib.hid hR4
            have HKK4 := Lib.hid (Kept.refl (N1 rb) w4)
            have HNN := Lib.hid (show n9 = N + sizeF (acc.app d.fo) by rw [HN9.out, sizeF_app, sizeF_fo]; omega)
            have HSZ4 := Lib.hid (show N + sizeF (acc.app d.fo) ≤ 4096 by rw [← HNN.out, HN9.out]; exact HSZ.out)
            have hq := HQ0.out
            clear hK4 hA4 hR4
            cases g9 with
            | zero => exact absurd hq.symm HO.out
            | succ g =>
            rw [rowM_step] at hq
            cases hm5 : hasM S.data.toList b t.data.toList
            · rw [hm5, if_neg (by simp), if_neg (by rw [Fo.len_app]; simp [Dt.fo, Fo.len])] at hq
              have HC5 := Lib.hid (wordF HR4.out (by omega) hS ht ht9 hm5)
              cases hm6 : hasM S.data.toList b [44, 32]
              · rw [hm6, if_neg (by simp)] at hq
                have HQ := Lib.hid hq
                clear hq hm5
                go_wp2_with (first
                  | (go_at_call 88; (with_reducible refine HC5.out.mono ?_); rintro e w5 ⟨rfl, hRx, hKx⟩; have HR5 := Lib.hid hRx; have HK5 := Lib.hid (HK4.out.trans hKx); have HKK5 := Lib.hid (HKK4.out.trans hKx); have HC6 := Lib.hid (wordF (t := ⟨#[44, 32]⟩) hRx (by omega) hS (by decide) (by decide) hm6); clear hRx hKx)
                  | (go_at_call 88; (with_reducible refine HC6.out.mono ?_); rintro e w6 ⟨rfl, hRx, hKx⟩; have HR6 := Lib.hid hRx; have HK6 := Lib.hid (HK5.out.trans hKx); have HKK6 := Lib.hid (HKK5.out.trans hKx); have e4 := hRx.cell 4 rfl; have f4 := hRx.free 4 (by simp); clear hRx hKx))
                have hfin : RW rb S D N t.data.toList w res 0 (.slice a4 (n + 1) c4) (w6.setCell ⟨rb, 4, none⟩ (.bool true)) := ⟨a4, n + 1, c4, rfl, .inr ⟨⟨b, D, _, (rr_bad HR6.out).1, by omega, Nat.le_refl _, by omega, HK6.out.trans (rr_bad HR6.out).2⟩, .inl HQ.out.symm⟩⟩
                exact ⟨⟨0, hfin, by omega⟩, Nat.lt_of_le_of_lt (least_le hfin) (by have := HLE.out; omega)⟩
              · rw [hm6, if_pos rfl] at hq
                have HQ := Lib.hid hq
                clear hq hm5
                go_wp2_with (first
                  | (go_at_call 88; (with_reducible refine HC5.out.mono ?_); rintro e w5 ⟨rfl, hRx, hKx⟩; have HR5 := Lib.hid hRx; have HK5 := Lib.hid (HK4.out.trans hKx); have HKK5 := Lib.hid (HKK4.out.trans hKx); have HC6 := Lib.hid (wordT (t := ⟨#[44, 32]⟩) hRx (by omega) hS (by decide) (by decide) hm6); clear hRx hKx)
                  | (go_at_call 88; (with_reducible refine HC6.out.mono ?_); rintro e w6 ⟨rfl, hRx, hKx⟩; have HR6 := Lib.hid hRx; have HK6 := Lib.hid (HK5.out.trans hKx); have HKK6 := Lib.hid (HKK5.out.trans hKx); clear hRx hKx))
                have hfin : RW rb S D N t.data.toList w res g (.slice a4 (n + 1) c4) w6 := ⟨a4, n + 1, c4, rfl, .inl ⟨b + 2, acc.app d.fo, _, by rw [Fo.len_app, HACC.out]; rfl, hasM_end (t := ⟨#[44, 32]⟩) hbv hm6, HRW.out.keep1 HKK6.out hrb, HK6.out, At.keep1 HAT4.out hrb HKK6.out, by rw [← HNN.out]; exact HR6.out, by have := HSZ4.out; omega, HQ.out⟩⟩
                exact ⟨⟨g, hfin, by omega⟩, Nat.lt_of_le_of_lt (least_le hfin) (by have := HLE.out; omega)⟩
            · rw [hm5, if_pos rfl] at hq
              have HQ := Lib.hid hq
              have HC5 := Lib.hid (wordT HR4.out (by omega) hS ht ht9 hm5)
              clear hq
              go_wp2_with (first
                | (go_at_call 88; (with_reducible refine HC5.out.mono ?_); rintro e w5 ⟨rfl, hRx, hKx⟩; have HR5 := Lib.hid hRx; have HK5 := Lib.hid (HK4.out.trans hKx); have HKK5 := Lib.hid (HKK4.out.trans hKx); clear hRx hKx))
              go_ret
              rw [← HQ.out]
              refine .inl ⟨by have := HSZ4.out; omega, a4, n + 1, c4, rfl, ⟨_, ⟨(HRW.out.keep1 HKK5.out hrb).rd, fun x _ hx => (HRW.out.lt x hx).1⟩, ?_⟩, by rw [← HNN.out, ← Lib.size_eq]; exact HR5.out, by rw [← Lib.size_eq]; exact hasM_end hbv hm5, HK5.out⟩
              exact At.same _ (At.keep1 HAT4.out hrb HKK5.out) (fun _ _ _ => rfl) (fun x hx _ => hx.1)
          · have HNONE := Lib.hid (rnone_of hvm hq HO.out (N := N) (by omega))
            have HVC := Lib.hid (HV9.mono (fun e w' h => rmany_of h hsz))
            clear hq hsz
            clear HV9 hvm
            go_upto_region 6 with (first
              | (go_at_call 41; (with_reducible refine HVC.out.mono ?_); rintro e wv ⟨⟨k5, i5, b5, t5, lv, nv, cv, rfl⟩, b9, D9, n9, bad9, hRv, ha9, hD1, hD2, hKv, hcase⟩
                 have HRV := Lib.hid hRv; have HKV := Lib.hid hKv; have HCS := Lib.hid hcase
                 have HR9 := fun o => Lib.hid ((HROW.out.keep1 hKv hrb).alloc o)
                 have HL9 := Lib.hid (show w.heap.size ≤ wv.heap.size from Nat.le_trans HK.out.size hKv.size)
                 have HS9 := Lib.hid (Src.oneRow (P := Tryd.prog) (w := wv) (tx := 23) Tryd.underlying23 (V5 k5 i5 b5 t5 lv nv cv) _ 25 (g := wv.heap.size) rfl rfl rfl (V5_one _ _ _ _ _ _ _))
                 clear hRv hKv hcase)
              | (at_builtin; refine wpList_append_row rfl _ _ 23 23 rfl 25 i0 (.agg #[.int .i64 0, .int .i64 0, .int .u64 0, .string ⟨#[]⟩, .slice none 0 0]) 5 64 Tryd.underlying23 hi hy0 hy1 hy2 rfl rfl (HR9 _).out 1 _ HS9.out (by unfold maxLen; omega) (by omega) (by have := HL9.out; simp; omega) ?_; intro a4 c4 w4 hrow hgr hbk4; have HRW := Lib.hid hrow; have HG4 := Lib.hid hgr; have HB4 := Lib.hid hbk4; clear hrow hgr hbk4))
            obtain ⟨hK4, hR4⟩ := rw_bad HROW.out HK.out hrb HKV.out HRV.out HG4.out
            have HK4 := Lib.hid hK4
            have HR4 := Lib.hid hR4
            have HKK4 := Lib.hid (Kept.refl (N1 rb) w4)
            clear hK4 hR4
            rcases HCS.out with rfl | ⟨rfl, hlt, hhex⟩
            · cases hm5 : hasM S.data.toList b9 t.data.toList
              · have HC5 := Lib.hid (wordF HR4.out (by omega) hS ht ht9 hm5)
                cases hm6 : hasM S.data.toList b9 [44, 32]
                · clear hm5
                  go_wp2_with (first
                    | (go_at_call 88; (with_reducible refine HC5.out.mono ?_); rintro e w5 ⟨rfl, hRx, hKx⟩; have HR5 := Lib.hid hRx; have HK5 := Lib.hid (HK4.out.trans hKx); have HKK5 := Lib.hid (HKK4.out.trans hKx); have HC6 := Lib.hid (wordF (t := ⟨#[44, 32]⟩) hRx (by omega) hS (by decide) (by decide) hm6); clear hRx hKx)
                    | (go_at_call 88; (with_reducible refine HC6.out.mono ?_); rintro e w6 ⟨rfl, hRx, hKx⟩; have HR6 := Lib.hid hRx; have HK6 := Lib.hid (HK5.out.trans hKx); have HKK6 := Lib.hid (HKK5.out.trans hKx); have e4 := hRx.cell 4 rfl; have f4 := hRx.free 4 (by simp); clear hRx hKx))
                  have hfin : RW rb S D N t.data.toList w res 0 (.slice a4 (n + 1) c4) (w6.setCell ⟨rb, 4, none⟩ (.bool true)) := ⟨a4, n + 1, c4, rfl, .inr ⟨⟨_, _, _, (rr_bad HR6.out).1, ha9, hD1, hD2, HK6.out.trans (rr_bad HR6.out).2⟩, HNONE.out⟩⟩
                  exact ⟨⟨0, hfin, by omega⟩, Nat.lt_of_le_of_lt (least_le hfin) (by have := HLE.out; omega)⟩
                · have hb6 : b9 + 2 ≤ S.size + 1 := by
                    rcases hasM_len hm6 with h1 | h1
                    · rw [← Lib.size_eq] at h1; exact Nat.le_succ_of_le h1
                    · cases h1
                  clear hm5
                  go_wp2_with (first
                    | (go_at_call 88; (with_reducible refine HC5.out.mono ?_); rintro e w5 ⟨rfl, hRx, hKx⟩; have HR5 := Lib.hid hRx; have HK5 := Lib.hid (HK4.out.trans hKx); have HKK5 := Lib.hid (HKK4.out.trans hKx); have HC6 := Lib.hid (wordT (t := ⟨#[44, 32]⟩) hRx (by omega) hS (by decide) (by decide) hm6); clear hRx hKx)
                    | (go_at_call 88; (with_reducible refine HC6.out.mono ?_); rintro e w6 ⟨rfl, hRx, hKx⟩; have HR6 := Lib.hid hRx; have HK6 := Lib.hid (HK5.out.trans hKx); have HKK6 := Lib.hid (HKK5.out.trans hKx); clear hRx hKx))
                  have hfin : RW rb S D N t.data.toList w res 0 (.slice a4 (n + 1) c4) w6 := ⟨a4, n + 1, c4, rfl, .inr ⟨⟨_, _, _, HR6.out, hb6, hD1, hD2, HK6.out⟩, HNONE.out⟩⟩
                  exact ⟨⟨0, hfin, by omega⟩, Nat.lt_of_le_of_lt (least_le hfin) (by have := HLE.out; omega)⟩
              · have hb5 : b9 + t.size ≤ S.size + 1 := Nat.le_succ_of_le (hasM_in ht hm5)
                have HC5 := Lib.hid (wordT HR4.out (by omega) hS ht ht9 hm5)
                go_wp2_with (first
                  | (go_at_call 88; (with_reducible refine HC5.out.mono ?_); rintro e w5 ⟨rfl, hRx, hKx⟩; have HR5 := Lib.hid hRx; have HK5 := Lib.hid (HK4.out.trans hKx); have HKK5 := Lib.hid (HKK4.out.trans hKx); clear hRx hKx))
                go_ret
                exact rnone_bad HNONE.out ⟨_, _, _, rfl⟩ ⟨_, _, _, HR5.out, hb5, hD1, hD2, HK5.out⟩
            · have hm5 := HEND.out b9 hhex
              have hm6 : hasM S.data.toList b9 [44, 32] = false := hex_no44 hhex
              have HC5 := Lib.hid (wordF HR4.out (by omega) hS ht ht9 hm5)
              clear hm5 hhex
              go_wp2_with (first
                | (go_at_call 88; (with_reducible refine HC5.out.mono ?_); rintro e w5 ⟨rfl, hRx, hKx⟩; have HR5 := Lib.hid hRx; have HK5 := Lib.hid (HK4.out.trans hKx); have HKK5 := Lib.hid (HKK4.out.trans hKx); have HC6 := Lib.hid (wordF (t := ⟨#[44, 32]⟩) hRx (by omega) hS (by decide) (by decide) hm6); clear hRx hKx)
                | (go_at_call 88; (with_reducible refine HC6.out.mono ?_); rintro e w6 ⟨rfl, hRx, hKx⟩; have HR6 := Lib.hid hRx; have HK6 := Lib.hid (HK5.out.trans hKx); have HKK6 := Lib.hid (HKK5.out.trans hKx); have e4 := hRx.cell 4 rfl; have f4 := hRx.free 4 (by simp); clear hRx hKx))
              have hfin : RW rb S D N t.data.toList w res 0 (.slice a4 (n + 1) c4) (w6.setCell ⟨rb, 4, none⟩ (.bool true)) := ⟨a4, n + 1, c4, rfl, .inr ⟨⟨_, _, _, (rr_bad HR6.out).1, ha9, hD1, hD2, HK6.out.trans (rr_bad HR6.out).2⟩, HNONE.out⟩⟩
              exact ⟨⟨0, hfin, by omega⟩, Nat.lt_of_le_of_lt (least_le hfin) (by have := HLE.out; omega)⟩
        | bad =>
          have hpos : 0 < g9 := valueM_pos (S := S.data.toList) (D := D) (a := a) (by rw [hvm]; simp)
          have HV9 := HV9 (by rw [hvm]; simp)
          rw [hvm] at HV9
          have HNONE := Lib.hid (show RNone res N by unfold rowV at hq; rw [hvm] at hq; exact .inl hq.symm)
          have HVC := Lib.hid (HV9.mono (fun e w' h => rnot_of h hD))
          clear hq
          clear HV9 hvm
          go_upto_region 6 with (first
            | (go_at_call 41; (with_reducible refine HVC.out.mono ?_); rintro e wv ⟨⟨k5, i5, b5, t5, lv, nv, cv, rfl⟩, b9, D9, n9, bad9, hRv, ha9, hD1, hD2, hKv, hcase⟩
               have HRV := Lib.hid hRv; have HKV := Lib.hid hKv; have HCS := Lib.hid hcase
               have HR9 := fun o => Lib.hid ((HROW.out.keep1 hKv hrb).alloc o)
               have HL9 := Lib.hid (show w.heap.size ≤ wv.heap.size from Nat.le_trans HK.out.size hKv.size)
               have HS9 := Lib.hid (Src.oneRow (P := Tryd.prog) (w := wv) (tx := 23) Tryd.underlying23 (V5 k5 i5 b5 t5 lv nv cv) _ 25 (g := wv.heap.size) rfl rfl rfl (V5_one _ _ _ _ _ _ _))
               clear hRv hKv hcase)
            | (at_builtin; refine wpList_append_row rfl _ _ 23 23 rfl 25 i0 (.agg #[.int .i64 0, .int .i64 0, .int .u64 0, .string ⟨#[]⟩, .slice none 0 0]) 5 64 Tryd.underlying23 hi hy0 hy1 hy2 rfl rfl (HR9 _).out 1 _ HS9.out (by unfold maxLen; omega) (by omega) (by have := HL9.out; simp; omega) ?_; intro a4 c4 w4 hrow hgr hbk4; have HRW := Lib.hid hrow; have HG4 := Lib.hid hgr; have HB4 := Lib.hid hbk4; clear hrow hgr hbk4))
          obtain ⟨hK4, hR4⟩ := rw_bad HROW.out HK.out hrb HKV.out HRV.out HG4.out
          have HK4 := Lib.hid hK4
          have HR4 := Lib.hid hR4
          have HKK4 := Lib.hid (Kept.refl (N1 rb) w4)
          clear hK4 hR4
          rcases HCS.out with rfl | ⟨rfl, hlt, hhex⟩
          · cases hm5 : hasM S.data.toList b9 t.data.toList
            · have HC5 := Lib.hid (wordF HR4.out (by omega) hS ht ht9 hm5)
              cases hm6 : hasM S.data.toList b9 [44, 32]
              · clear hm5
                go_wp2_with (first
                  | (go_at_call 88; (with_reducible refine HC5.out.mono ?_); rintro e w5 ⟨rfl, hRx, hKx⟩; have HR5 := Lib.hid hRx; have HK5 := Lib.hid (HK4.out.trans hKx); have HKK5 := Lib.hid (HKK4.out.trans hKx); have HC6 := Lib.hid (wordF (t := ⟨#[44, 32]⟩) hRx (by omega) hS (by decide) (by decide) hm6); clear hRx hKx)
                  | (go_at_call 88; (with_reducible refine HC6.out.mono ?_); rintro e w6 ⟨rfl, hRx, hKx⟩; have HR6 := Lib.hid hRx; have HK6 := Lib.hid (HK5.out.trans hKx); have HKK6 := Lib.hid (HKK5.out.trans hKx); have e4 := hRx.cell 4 rfl; have f4 := hRx.free 4 (by simp); clear hRx hKx))
                have hfin : RW rb S D N t.data.toList w res 0 (.slice a4 (n + 1) c4) (w6.setCell ⟨rb, 4, none⟩ (.bool true)) := ⟨a4, n + 1, c4, rfl, .inr ⟨⟨_, _, _, (rr_bad HR6.out).1, ha9, hD1, hD2, HK6.out.trans (rr_bad HR6.out).2⟩, HNONE.out⟩⟩
                exact ⟨⟨0, hfin, by omega⟩, Nat.lt_of_le_of_lt (least_le hfin) (by have := HLE.out; omega)⟩
              · have hb6 : b9 + 2 ≤ S.size + 1 := by
                  rcases hasM_len hm6 with h1 | h1
                  · rw [← Lib.size_eq] at h1; exact Nat.le_succ_of_le h1
                  · cases h1
                clear hm5
                go_wp2_with (first
                  | (go_at_call 88; (with_reducible refine HC5.out.mono ?_); rintro e w5 ⟨rfl, hRx, hKx⟩; have HR5 := Lib.hid hRx; have HK5 := Lib.hid (HK4.out.trans hKx); have HKK5 := Lib.hid (HKK4.out.trans hKx); have HC6 := Lib.hid (wordT (t := ⟨#[44, 32]⟩) hRx (by omega) hS (by decide) (by decide) hm6); clear hRx hKx)
                  | (go_at_call 88; (with_reducible refine HC6.out.mono ?_); rintro e w6 ⟨rfl, hRx, hKx⟩; have HR6 := Lib.hid hRx; have HK6 := Lib.hid (HK5.out.trans hKx); have HKK6 := Lib.hid (HKK5.out.trans hKx); clear hRx hKx))
                have hfin : RW rb S D N t.data.toList w res 0 (.slice a4 (n + 1) c4) w6 := ⟨a4, n + 1, c4, rfl, .inr ⟨⟨_, _, _, HR6.out, hb6, hD1, hD2, HK6.out⟩, HNONE.out⟩⟩
                exact ⟨⟨0, hfin, by omega⟩, Nat.lt_of_le_of_lt (least_le hfin) (by have := HLE.out; omega)⟩
            · have hb5 : b9 + t.size ≤ S.size + 1 := Nat.le_succ_of_le (hasM_in ht hm5)
              have HC5 := Lib.hid (wordT HR4.out (by omega) hS ht ht9 hm5)
              go_wp2_with (first
                | (go_at_call 88; (with_reducible refine HC5.out.mono ?_); rintro e w5 ⟨rfl, hRx, hKx⟩; have HR5 := Lib.hid hRx; have HK5 := Lib.hid (HK4.out.trans hKx); have HKK5 := Lib.hid (HKK4.out.trans hKx); clear hRx hKx))
              go_ret
              exact rnone_bad HNONE.out ⟨_, _, _, rfl⟩ ⟨_, _, _, HR5.out, hb5, hD1, hD2, HK5.out⟩
          · have hm5 := HEND.out b9 hhex
            have hm6 : hasM S.data.toList b9 [44, 32] = false := hex_no44 hhex
            have HC5 := Lib.hid (wordF HR4.out (by omega) hS ht ht9 hm5)
            clear hm5 hhex
            go_wp2_with (first
              | (go_at_call 88; (with_reducible refine HC5.out.mono ?_); rintro e w5 ⟨rfl, hRx, hKx⟩; have HR5 := Lib.hid hRx; have HK5 := Lib.hid (HK4.out.trans hKx); have HKK5 := Lib.hid (HKK4.out.trans hKx); have HC6 := Lib.hid (wordF (t := ⟨#[44, 32]⟩) hRx (by omega) hS (by decide) (by decide) hm6); clear hRx hKx)
              | (go_at_call 88; (with_reducible refine HC6.out.mono ?_); rintro e w6 ⟨rfl, hRx, hKx⟩; have HR6 := Lib.hid hRx; have HK6 := Lib.hid (HK5.out.trans hKx); have HKK6 := Lib.hid (HKK5.out.trans hKx); have e4 := hRx.cell 4 rfl; have f4 := hRx.free 4 (by simp); clear hRx hKx))
            have hfin : RW rb S D N t.data.toList w res 0 (.slice a4 (n + 1) c4) (w6.setCell ⟨rb, 4, none⟩ (.bool true)) := ⟨a4, n + 1, c4, rfl, .inr ⟨⟨_, _, _, (rr_bad HR6.out).1, ha9, hD1, hD2, HK6.out.trans (rr_bad HR6.out).2⟩, HNONE.out⟩⟩
            exact ⟨⟨0, hfin, by omega⟩, Nat.lt_of_le_of_lt (least_le hfin) (by have := HLE.out; omega)⟩
      · obtain ⟨a, D', n', hR, ha, hD1, hD2, hK⟩ := hbad
        have c4 := hR.cell 4 rfl
        have HR := Lib.hid hR
        clear hR
        go_wp2_with fail
        go_ret
        exact rnone_bad hnone ⟨_, _, _, rfl⟩ ⟨a, D', n', HR.out, ha, hD1, hD2, hK⟩
  · rw [hm, if_pos rfl] at hq
    have he : a0 + t.size ≤ S.size := hasM_end ha0 hm
    have HQ := Lib.hid hq
    have HC := Lib.hid (wordT h (by omega) hS ht ht9 hm)
    clear h hq
    go_enter Tryd.func92, Tryd.ntmps92
    go_wp2_with (go_at_call 88; (with_reducible refine HC.out.mono ?_); rintro e w1 ⟨rfl, hR1, hK1⟩)
    go_ret
    rw [← HQ.out, ← Lib.size_eq]
    exact .inl ⟨hN, none, 0, 0, rfl, FoAt.nil _ _, hR1, he, hK1⟩
end Go.Proofs.YtofpdhkdnbnobaaDoor
