/-
  The document's reader: one value (walk). Not a statement of the seat.
-/
import Derived.Test.YtofpdhkdnbnobaaDoorROneP
import Derived.Lib.EndianBits
namespace Go.Proofs.YtofpdhkdnbnobaaDoor
open Go.RowKit

/-- the result's box -/
def ob (w : World) : World := w.alloc (.cells #[.int .i64 0, .int .i64 0, .int .u64 0, .string ⟨#[]⟩, .slice none 0 0] 25)
structure Ox (w wx : World) (rb : Nat) (vs : List Value) : Prop where
  out : Blk wx w.heap.size vs
  kept : Kept (N1 rb) w wx
theorem Ox.new (w : World) (rb : Nat) : Ox w (ob w) rb (V5 0 0 0 ⟨#[]⟩ none 0 0) :=
  ⟨by simpa [ob, V5] using Blk.new w #[.int .i64 0, .int .i64 0, .int .u64 0, .string ⟨#[]⟩, .slice none 0 0] 25, (Kept.refl _ _).alloc _⟩
theorem Ox.keep {w wx wy : World} {rb : Nat} {vs : List Value} (h : Ox w wx rb vs) (g : Kept (N1 rb) wx wy) (hrb : rb < w.heap.size) : Ox w wy rb vs :=
  ⟨h.out.keep g (by unfold N1; omega), h.kept.trans g⟩
theorem o_res {tmps : Array Value} {w : World} {db : Nat} {v0 v1 v2 v3 v4 : Value} (ht : tmps.getD 2 undef = .pointer (some ⟨db, 0, none⟩)) (h : Blk w db [v0, v1, v2, v3, v4]) :
    (results Tryd.f73 tmps).run Tryd.prog w = .ok (.agg #[v0, v1, v2, v3, v4]) w := by
  have c0 := h.cell 0 rfl
  have c1 := h.cell 1 rfl
  have c2 := h.cell 2 rfl
  have c3 := h.cell 3 rfl
  have c4 := h.cell 4 rfl
  have ht' : tmps[2]?.getD undef = .pointer (some ⟨db, 0, none⟩) := by simpa using ht
  simp [results, Tryd.results73, go_sem, ht', c0, c1, c2, c3, c4]
theorem o_fin {tmps : Array Value} {w w' : World} {rb b D n : Nat} {S : ByteArray} {bad : Bool} {u0 u1 u2 u3 u4 v0 v1 v2 v3 v4 : Value} {R : Ending → World → Prop} (ht : tmps.getD 2 undef = .pointer (some ⟨w.heap.size, 0, none⟩))
    (h : Rr w' rb S b D n bad) (hB : Ox w w' rb [u0, u1, u2, u3, u4]) (hrb : rb < w.heap.size)
    (hR : ∀ wq, Rr wq rb S b D n bad → Kept (N1 rb) w wq → (∀ x, w.heap.size + 1 ≤ x → x < w'.heap.size → wq.heap[x]? = w'.heap[x]?) → R (.returned (.agg #[v0, v1, v2, v3, v4])) wq) :
    bodyPost Tryd.prog Tryd.f73 R Exit.ret { tmps := tmps, defers := [] } (st5 w' w.heap.size v0 v1 v2 v3 v4) := by
  have hk := st5_kept (w := w') (b := w.heap.size) v0 v1 v2 v3 v4
  refine bodyPost_ret (o_res ht (st5_blk hB.out v0 v1 v2 v3 v4)) rfl ?_
  exact hR _ (Blk.keep h hk (by unfold N1; omega)) (hB.kept.over hk (by omega)) (fun x hx hlt => hk.block x hlt (by unfold N1; omega))

def RROK (S : ByteArray) (f : Nat) : Prop := ∀ (rb a0 D N : Nat) (t : ByteArray) (w : World), Rr w rb S a0 D N false → a0 ≤ S.size → D ≤ 16 → N ≤ 4096 → Lb w → 7 ≤ rb →
    0 < t.size → t.size ≤ 1000 → (∀ b, 0 ≤ Go.Lib.indexByte hexD (nx S.data.toList b) → hasM S.data.toList b t.data.toList = false) → rowM S.data.toList f D a0 t.data.toList .nil ≠ .out →
    Calls Tryd.prog 92 #[.pointer (some ⟨rb, 0, none⟩), .string t] w (RRP rb S D N w (rowM S.data.toList f D a0 t.data.toList .nil))
def ROOK (S : ByteArray) (f : Nat) : Prop := ∀ (rb a d N : Nat) (w : World), Rr w rb S a (d + 1) N false → a ≤ S.size → d < 16 → N ≤ 4096 → Lb w → 7 ≤ rb → valueM S.data.toList f d a ≠ .out →
  Calls Tryd.prog 73 #[.pointer (some ⟨rb, 0, none⟩)] w (RVP rb S (d + 1) N w (valueM S.data.toList f d a))
theorem no_end {S : ByteArray} (c : UInt8) (h0 : c ≠ 0) (hc : Go.Lib.indexByte hexD c < 0) (b : Nat) (h : 0 ≤ Go.Lib.indexByte hexD (nx S.data.toList b)) : hasM S.data.toList b (⟨#[c]⟩ : ByteArray).data.toList = false := by
  refine hasM_ne (fun e => ?_) h0
  rw [e] at h
  omega
/-- a value without parts -/
theorem rv_ok {rb D N b : Nat} {S : ByteArray} {w w' : World} {k i c : Int} {t : Bs} (hN : N ≤ 4096) (h : Rr w' rb S b D N false) (hb : b ≤ S.size) (hK : Kept (N1 rb) w w') :
    RVP rb S D N w (.ok ⟨k, i, c, t, .nil⟩ b) (.returned (.agg #[.int .i64 k, .int .i64 i, .int .u64 c, .string ⟨t.toArray⟩, .slice none 0 0])) w' :=
  .inl ⟨by simpa [sizeF] using hN, none, 0, 0, rfl, FoAt.nil _ _, by simpa [sizeF] using h, hb, hK⟩
theorem rv_bad {rb D N b : Nat} {S : ByteArray} {w w' : World} {k i c : Int} {t : ByteArray} {l : Option Addr} {m p : Nat} (hD : D ≤ 16) (h : Rr w' rb S b D N true) (hb : b ≤ S.size + 1) (hK : Kept (N1 rb) w w') :
    RVP rb S D N w .bad (.returned (.agg #[.int .i64 k, .int .i64 i, .int .u64 c, .string t, .slice l m p])) w' :=
  ⟨⟨_, _, _, _, _, _, _, rfl⟩, .inl ⟨b, D, N, h, hb, Nat.le_refl _, by omega, hK⟩⟩

/-- the value and the sign of two digits -/
def hbv : Option UInt8 → Int
  | some b => (b.toNat : Nat)
  | none => 0
theorem rhexG {rb a D N : Nat} {S : ByteArray} {bad : Bool} {w : World} (h : Rr w rb S a D N bad) (ha : a ≤ 4000000000000) :
    Calls Tryd.prog 90 #[.pointer (some ⟨rb, 0, none⟩)] w (fun e w' => e = .returned (.tuple #[.int .u8 (hbv (rhexAt S.data.toList a)), .bool (rhexAt S.data.toList a).isSome]) ∧ Rr w' rb S (if (rhexAt S.data.toList a).isSome = true then a + 2 else a) D N bad ∧ Kept (N1 rb) w w') := by
  refine (rhexN h ha).mono ?_
  rintro e w' ⟨h1, h2, h3⟩
  refine ⟨?_, h2, h3⟩
  rw [h1]
  cases rhexAt S.data.toList a <;> rfl
theorem ox_grown {w wb wx w4 : World} {rb n cap : Nat} {l : Option Addr} {xs vs : List Value} (h : Ox w wb rb vs) (hRow : Row (w.heap.size + 1) wb 1 l n cap xs) (hx : Below wb.heap.size wb wx) (hgr : wx.grownBy w4 (blockOf l)) : Ox w w4 rb vs :=
  ⟨Blk.grown (Blk.below h.out hx) hgr (fun e => by have := (hRow.lt _ e).1; omega), (h.kept.calm hx).grown hgr (fun x e hlt => by have := (hRow.lt x e).1; omega)⟩
theorem bit_next {bt b : Nat} (h : bt < 2 ^ 56) (hb : b < 256) : bits BinOp.or IntKind.u64 (IntKind.u64.wrap ((bt : Int) * 256)) (b : Int) = ((bt * 256 + b : Nat) : Int) := by
  have h2 : (2 : Nat) ^ 56 = 72057594037927936 := by decide
  rw [h2] at h
  rw [wraps_u64 _ (by omega) (by omega)]
  have := bits_join .u64 64 (by decide) wraps_u64 8 ((bt : Int) * 256) (b : Int) (by omega) (by omega) (by omega) (by omega) (by omega) (by omega)
  rw [this]
  omega
theorem hexM_app : ∀ (l m : Bs) (acc : Nat), hexM (l ++ m) acc = hexM m (hexM l acc)
  | [], m, acc => rfl
  | c :: l, m, acc => by simp only [List.cons_append, hexM]; exact hexM_app l m _
theorem hexM_lt : ∀ (l : Bs) (acc : Nat), hexM l acc < (acc + 1) * 16 ^ l.length
  | [], acc => by simp [hexM]
  | c :: l, acc => by
    rw [hexM]
    have h := hexM_lt l (acc * 16 + (Go.Lib.indexByte hexD c).toNat)
    have h2 := (idx_lt c).1
    refine Nat.lt_of_lt_of_le h ?_
    rw [List.length_cons, Nat.pow_succ, Nat.mul_comm (16 ^ l.length) 16, ← Nat.mul_assoc]
    exact Nat.mul_le_mul_right _ (by omega)
theorem while_skip {L : Bs} {p : Nat} : ∀ {n : Nat}, n ≤ whileM L p hexD → whileM L (p + n) hexD = whileM L p hexD - n
  | 0, _ => by simp
  | n + 1, h => by
    have h1 := while_skip (L := L) (p := p) (n := n) (by omega)
    obtain ⟨_, _, h2⟩ := hexrun_lt (L := L) (i := p + n) (by omega)
    rw [show p + (n + 1) = p + n + 1 by omega]
    omega
theorem hex_stop {L : Bs} {p k W : Nat} (hW : whileM L p hexD = W) (hx : rhexAt L (p + 2 * k) = none) : W < 2 * k + 2 := by
  rcases Nat.lt_or_ge W (2 * k + 2) with h | h
  · exact h
  · have h1 := while_skip (L := L) (p := p) (n := 2 * k) (by omega)
    obtain ⟨b, h2, _⟩ := hex_two (L := L) (i := p + 2 * k) (W := W - 2 * k - 2) (by omega)
    rw [hx] at h2
    cases h2
theorem hex_next {L : Bs} {p k W : Nat} {b : UInt8} (hW : whileM L p hexD = W) (hk : 2 * k ≤ W) (hx : rhexAt L (p + 2 * k) = some b) :
    hexM ((L.drop p).take (2 * (k + 1))) 0 = hexM ((L.drop p).take (2 * k)) 0 * 256 + b.toNat ∧ 2 * (k + 1) ≤ W ∧ (k < 8 → hexM ((L.drop p).take (2 * k)) 0 < 2 ^ 56) := by
  have h1 := while_skip (L := L) (p := p) (n := 2 * k) (by omega)
  have h2 : 2 ≤ whileM L (p + 2 * k) hexD := by
    rcases Nat.lt_or_ge (whileM L (p + 2 * k) hexD) 2 with h | h
    · rw [hex_few h] at hx; cases hx
    · exact h
  obtain ⟨b', h3, _, h4, _, h5, h6, h7⟩ := hex_two (L := L) (i := p + 2 * k) (W := W - 2 * k - 2) (by omega)
  rw [hx] at h3
  cases h3
  refine ⟨?_, by omega, fun h8 => ?_⟩
  · rw [show 2 * (k + 1) = 2 * k + 2 by omega, List.take_add, List.drop_drop, drop2 h4]
    simp only [List.take_succ_cons, List.take_zero]
    rw [hexM_app]
    have i1 := (idx_lt (nx L (p + 2 * k))).1
    have i2 := (idx_lt (nx L (p + 2 * k + 1))).1
    rw [h5]
    unfold byteOf
    rw [UInt8.toNat_ofNat_of_lt' (by show _ < 256; omega)]
    simp only [hexM]
    omega
  · have h9 := hexM_lt ((L.drop p).take (2 * k)) 0
    refine Nat.lt_of_lt_of_le h9 ?_
    have h10 : ((L.drop p).take (2 * k)).length ≤ 14 := by rw [List.length_take]; omega
    rw [Nat.zero_add, Nat.one_mul]
    exact Nat.le_trans (Nat.pow_le_pow_right (by omega) h10) (by decide)
/-- between two rounds of a float's digits -/
def FR (rb : Nat) (S : ByteArray) (D N : Nat) (w : World) (P p W : Nat) (m : Nat) (t5 : Value) (wr : World) : Prop :=
  ∃ (k : Nat) (bt : Int), t5 = .int .i64 (k : Nat) ∧ m = 8 - k ∧ k ≤ 8 ∧ Ox w wr rb (V5 0 0 0 ⟨#[]⟩ none 0 0) ∧ Blk wr P [.int .i64 3, .int .i64 0, .int .u64 bt, .string ⟨#[]⟩, .slice none 0 0] ∧
    ((bt = (hexM ((S.data.toList.drop p).take (2 * k)) 0 : Nat) ∧ 2 * k ≤ W ∧ Rr wr rb S (p + 2 * k) D N false) ∨ (W < 16 ∧ ∃ q, q ≤ S.size ∧ Rr wr rb S q D N true))
/-- between two rounds of the bytes -/
def PR (rb : Nat) (S : ByteArray) (D N : Nat) (w : World) (E : Nat) (rs : Option Bs) (m : Nat) (t8 t9 t10 : Value) (wr : World) : Prop :=
  ∃ j o l n cap, t8 = .slice l n cap ∧ t9 = .int .u8 (hbv (rhexAt S.data.toList j)) ∧ t10 = .bool (rhexAt S.data.toList j).isSome ∧ o.length = n ∧ n ≤ j ∧ j ≤ S.size ∧ Row (w.heap.size + 1) wr 1 l n cap (B8 o) ∧
    Ox w wr rb (V5 0 0 0 ⟨#[]⟩ none 0 0) ∧ Rr wr rb S (if (rhexAt S.data.toList j).isSome = true then j + 2 else j) D N false ∧ whileM S.data.toList j hexD = m ∧ j + m = E ∧ (unpairM ((S.data.toList.drop j).take m)).map (o ++ ·) = rs
theorem rerrc {L : Bs} {p f p' : Nat} {bad : Bool} {v : Int} {o : Option Int} (hA : (bad = false ∧ p' = p ∧ o = some v) ∨ (bad = true ∧ o = none)) (hN : ∀ v, o = some v → hasM L p [34] = true → quotedM L f (p + 1) [] ≠ .out)
    (e : bad = false) (h : hasM L p' [34] = true) : quotedM L f (p' + 1) [] ≠ .out := by
  rcases hA with ⟨_, h0, h1⟩ | ⟨h1, _⟩
  · rw [h0] at h ⊢
    exact hN v h1 h
  · rw [e] at h1; cases h1
/-- what rows comes to, in one form -/
def RAny (S : ByteArray) (D N : Nat) (w w' : World) (res : Res Fo) (bad : Bool) (a' D' n' : Nat) (l : Option Addr) (m c : Nat) : Prop :=
  (∃ g, bad = false ∧ res = .ok g a' ∧ N + sizeF g ≤ 4096 ∧ n' = N + sizeF g ∧ D' = D ∧ a' ≤ S.size ∧ FoAt (fun x => w.heap.size ≤ x) w' g l m c) ∨ (bad = true ∧ (res = .bad ∨ ∃ g b, res = .ok g b ∧ 4096 < N + sizeF g))
theorem rrp_any {rb D N : Nat} {S : ByteArray} {w w' : World} {res : Res Fo} {e : Ending} (h : RRP rb S D N w res e w') (ho : res ≠ .out) (hD : D ≤ 16) :
    ∃ l m c bad a' D' n', e = .returned (.slice l m c) ∧ Rr w' rb S a' D' n' bad ∧ a' ≤ S.size + 1 ∧ D ≤ D' ∧ D' ≤ 17 ∧ Kept (N1 rb) w w' ∧ RAny S D N w w' res bad a' D' n' l m c := by
  cases res with
  | out => exact absurd rfl ho
  | bad =>
    obtain ⟨⟨l, m, c, rfl⟩, a', D', n', h1, h2, h3, h4, h5⟩ := h
    exact ⟨l, m, c, true, a', D', n', rfl, h1, h2, h3, h4, h5, .inr ⟨rfl, .inl rfl⟩⟩
  | ok g b =>
    rcases h with ⟨h1, l, m, c, rfl, h2, h3, h4, h5⟩ | ⟨h1, ⟨l, m, c, rfl⟩, a', D', n', h2, h3, h4, h5, h6⟩
    · exact ⟨l, m, c, false, b, D, _, rfl, h3, by omega, Nat.le_refl _, by omega, h5, .inl ⟨g, rfl, rfl, h1, rfl, rfl, h4, h2⟩⟩
    · exact ⟨l, m, c, true, a', D', n', rfl, h2, h3, h4, h5, h6, .inr ⟨rfl, .inr ⟨g, b, rfl, h1⟩⟩⟩
/-- a value of a row -/
theorem rv_row {rb D N a' D' n' m c : Nat} {S : ByteArray} {w v1 v2 wq : World} {res : Res Fo} {bad : Bool} {l : Option Addr} (k i : Int) (ho : res ≠ .out) (h : RAny S D N v1 v2 res bad a' D' n' l m c) (hR : Rr wq rb S a' D' n' bad) (hle : a' ≤ S.size + 1) (hd1 : D ≤ D') (hd2 : D' ≤ 17) (hK : Kept (N1 rb) w wq)
    (hsame : ∀ x, v1.heap.size ≤ x → x < v2.heap.size → wq.heap[x]? = v2.heap[x]?) (hsz : w.heap.size ≤ v1.heap.size) :
    RVP rb S D N w (rowTo k i res) (.returned (.agg #[.int .i64 k, .int .i64 i, .int .u64 0, .string ⟨#[]⟩, .slice l m c])) wq := by
  rcases h with ⟨g, rfl, rfl, h1, rfl, rfl, h2, h3⟩ | ⟨rfl, rfl | ⟨g, b, rfl, h1⟩⟩
  · exact .inl ⟨h1, l, m, c, rfl, h3.same (fun x hx hlt => hsame x hx hlt) (fun x hx _ => Nat.le_trans hsz hx), hR, h2, hK⟩
  · exact ⟨⟨_, _, _, _, _, _, _, rfl⟩, .inl ⟨a', D', n', hR, hle, hd1, hd2, hK⟩⟩
  · exact .inr ⟨h1, ⟨_, _, _, _, _, _, _, rfl⟩, a', D', n', hR, hle, hd1, hd2, hK⟩

set_option maxHeartbeats 16000000 in
set_option maxRecDepth 100000 in
theorem roneN {S : ByteArray} {f : Nat} (hS : S.size ≤ 1000000000000) (hROK : RROK S f) : ROOK S (f + 1) := by
  intro rb a d N w h ha hd hN hL hrb7 ho
  have hrb := h.lt
  obtain ⟨D, hD⟩ : ∃ D, D = d + 1 := ⟨_, rfl⟩
  have h16 : ¬ d = 16 := by omega
  have hD16 : D ≤ 16 := by omega
  rw [← hD] at h ⊢
  have HDD := Lib.hid hD
  have HO := Lib.hid ho
  have HROK := Lib.hid hROK
  have HB := Lib.hid (Ox.new w rb)
  have HR := Lib.hid (show Rr (ob w) rb S a D N false from Blk.alloc h _)
  have HL := Lib.hid (show Lb (ob w) from hL.keep1 HB.out.kept hrb7)
  obtain ⟨cc, hcc⟩ : ∃ cc, cc = (nx S.data.toList a).toNat := ⟨_, rfl⟩
  have HCC := Lib.hid hcc
  have hcl : cc < 256 := by rw [hcc]; exact (nx S.data.toList a).toNat_lt
  clear h hL ho hROK hcc hD
  go_enter Tryd.func73, Tryd.ntmps73
  go_upto_region 1 with (fail)
  change Code.wp _ _ _ _ (ob w)
  generalize ob w = wz at *
  have HN := Lib.hid (nextC HR.out HCC.out)
  go_upto_region 2 with (go_at_call 87; (with_reducible refine HN.out.mono ?_); rintro e w0 ⟨rfl, hRx, hKx⟩; have HR0 := Lib.hid hRx; have HB0 := Lib.hid (HB.out.keep hKx hrb); have HL0 := Lib.hid (HL.out.keep1 hKx hrb7); clear hRx hKx)
  clear HR HB HL HN
  cases hknil : hasM S.data.toList a [110, 105, 108]
  · have HF := Lib.hid (wordF (t := ⟨#[110, 105, 108]⟩) HR0.out (by omega) hS (by decide) (by decide) hknil)
    go_upto_region 4 with (first
      | (go_at_call 88; (with_reducible refine HF.out.mono ?_); rintro e w1 ⟨rfl, hRx, hKx⟩
         have HR1 := Lib.hid hRx
         have HB1 := Lib.hid (HB0.out.keep hKx hrb)
         have HL1 := Lib.hid (HL0.out.keep1 hKx hrb7)
         skip
         clear hRx hKx))
    clear HF HR0 HB0 HL0
    cases hktrue : hasM S.data.toList a [116, 114, 117, 101]
    · have HF := Lib.hid (wordF (t := ⟨#[116, 114, 117, 101]⟩) HR1.out (by omega) hS (by decide) (by decide) hktrue)
      go_upto_region 6 with (first
        | (go_at_call 88; (with_reducible refine HF.out.mono ?_); rintro e w2 ⟨rfl, hRx, hKx⟩
           have HR2 := Lib.hid hRx
           have HB2 := Lib.hid (HB1.out.keep hKx hrb)
           have HL2 := Lib.hid (HL1.out.keep1 hKx hrb7)
           skip
           clear hRx hKx))
      clear HF HR1 HB1 HL1
      cases hkfalse : hasM S.data.toList a [102, 97, 108, 115, 101]
      · have HF := Lib.hid (wordF (t := ⟨#[102, 97, 108, 115, 101]⟩) HR2.out (by omega) hS (by decide) (by decide) hkfalse)
        go_upto_region 8 with (first
          | (go_at_call 88; (with_reducible refine HF.out.mono ?_); rintro e w3 ⟨rfl, hRx, hKx⟩
             have HR3 := Lib.hid hRx
             have HB3 := Lib.hid (HB2.out.keep hKx hrb)
             have HL3 := Lib.hid (HL2.out.keep1 hKx hrb7)
             skip
             clear hRx hKx))
        clear HF HR2 HB2 HL2
        cases hknoptr : hasM S.data.toList a [38, 110, 105, 108]
        · have HF := Lib.hid (wordF (t := ⟨#[38, 110, 105, 108]⟩) HR3.out (by omega) hS (by decide) (by decide) hknoptr)
          go_upto_region 10 with (first
            | (go_at_call 88; (with_reducible refine HF.out.mono ?_); rintro e w4 ⟨rfl, hRx, hKx⟩
               have HR4 := Lib.hid hRx
               have HB4 := Lib.hid (HB3.out.keep hKx hrb)
               have HL4 := Lib.hid (HL3.out.keep1 hKx hrb7)
               skip
               clear hRx hKx))
          clear HF HR3 HB3 HL3
          cases hkunit : hasM S.data.toList a [123, 125]
          · have HF := Lib.hid (wordF (t := ⟨#[123, 125]⟩) HR4.out (by omega) hS (by decide) (by decide) hkunit)
            go_upto_region 12 with (first
              | (go_at_call 88; (with_reducible refine HF.out.mono ?_); rintro e w5 ⟨rfl, hRx, hKx⟩
                 have HR5 := Lib.hid hRx
                 have HB5 := Lib.hid (HB4.out.keep hKx hrb)
                 have HL5 := Lib.hid (HL4.out.keep1 hKx hrb7)
                 skip
                 clear hRx hKx))
            clear HF HR4 HB4 HL4
            by_cases h45 : cc = 45
            · have hnum : cc = 45 ∨ (48 ≤ cc ∧ cc ≤ 57) := .inl h45
              have e45 : ((cc : Int) == 45) = true := by simp [h45]
              have HV := Lib.hid (vm_number (f := f) h16 (dig_ne (by rw [← HCC.out]; exact hnum)))
              have HC := Lib.hid (rnumberN HR5.out ha hS HL5.out hrb7)

              clear hnum h45
              go_wp2_with (first
                | (go_at_call 89; (with_reducible refine HC.out.mono ?_); rintro e v2 ⟨v, a', bad, rfl, hRx, hle, hKx, hcase⟩
                   have HRb := Lib.hid hRx
                   have HBb := Lib.hid (HB5.out.keep hKx hrb)
                   have HLb := Lib.hid (HL5.out.keep1 hKx hrb7)
                   have hob := HBb.out.out; have o0 := hob.cell 0 rfl; have o1 := hob.cell 1 rfl; have o2 := hob.cell 2 rfl; have o3 := hob.cell 3 rfl; have o4 := hob.cell 4 rfl; have p0 := hob.free 0 (by simp [V5]); have p1 := hob.free 1 (by simp [V5]); have p2 := hob.free 2 (by simp [V5]); have p3 := hob.free 3 (by simp [V5]); have p4 := hob.free 4 (by simp [V5]); clear hob; have HCA := Lib.hid hcase; clear hcase
                   clear hRx hKx))
              refine o_fin rfl HRb.out HBb.out hrb ?_
              intro wq hRq hKq hsame
              rw [HV.out]
              rcases HCA.out with ⟨rfl, rfl, hn⟩ | ⟨rfl, hn⟩
              · rw [hn]; exact rv_ok hN hRq hle hKq
              · rw [hn]; exact rv_bad hD16 hRq (by omega) hKq
            · have e45 : ((cc : Int) == 45) = false := by simp; omega
              have hn45 := h45
              clear h45
              by_cases h48 : (48 : Int) ≤ (cc : Int)
              · by_cases h57 : (cc : Int) ≤ 57
                · have hnum : cc = 45 ∨ (48 ≤ cc ∧ cc ≤ 57) := by omega
                  have HV := Lib.hid (vm_number (f := f) h16 (dig_ne (by rw [← HCC.out]; exact hnum)))
                  have HC := Lib.hid (rnumberN HR5.out ha hS HL5.out hrb7)

                  clear hnum hn45
                  go_wp2_with (first
                    | (go_at_call 89; (with_reducible refine HC.out.mono ?_); rintro e v2 ⟨v, a', bad, rfl, hRx, hle, hKx, hcase⟩
                       have HRb := Lib.hid hRx
                       have HBb := Lib.hid (HB5.out.keep hKx hrb)
                       have HLb := Lib.hid (HL5.out.keep1 hKx hrb7)
                       have hob := HBb.out.out; have o0 := hob.cell 0 rfl; have o1 := hob.cell 1 rfl; have o2 := hob.cell 2 rfl; have o3 := hob.cell 3 rfl; have o4 := hob.cell 4 rfl; have p0 := hob.free 0 (by simp [V5]); have p1 := hob.free 1 (by simp [V5]); have p2 := hob.free 2 (by simp [V5]); have p3 := hob.free 3 (by simp [V5]); have p4 := hob.free 4 (by simp [V5]); clear hob; have HCA := Lib.hid hcase; clear hcase
                       clear hRx hKx))
                  refine o_fin rfl HRb.out HBb.out hrb ?_
                  intro wq hRq hKq hsame
                  rw [HV.out]
                  rcases HCA.out with ⟨rfl, rfl, hn⟩ | ⟨rfl, hn⟩
                  · rw [hn]; exact rv_ok hN hRq hle hKq
                  · rw [hn]; exact rv_bad hD16 hRq (by omega) hKq
                · have hnd : ¬ (48 ≤ cc ∧ cc ≤ 57) := by omega
                  go_upto_region 14 with fail
                  clear h48 h57 e45
                  cases hkkey : hasM S.data.toList a [35]
                  · have HF := Lib.hid (wordF (t := ⟨#[35]⟩) HR5.out (by omega) hS (by decide) (by decide) hkkey)
                    go_upto_region 16 with (first
                      | (go_at_call 88; (with_reducible refine HF.out.mono ?_); rintro e w6 ⟨rfl, hRx, hKx⟩
                         have HR6 := Lib.hid hRx
                         have HB6 := Lib.hid (HB5.out.keep hKx hrb)
                         have HL6 := Lib.hid (HL5.out.keep1 hKx hrb7)
                         skip
                         clear hRx hKx))
                    clear HF HR5 HB5 HL5
                    cases hkfloat : hasM S.data.toList a [102]
                    · have HF := Lib.hid (wordF (t := ⟨#[102]⟩) HR6.out (by omega) hS (by decide) (by decide) hkfloat)
                      go_upto_region 25 with (first
                        | (go_at_call 88; (with_reducible refine HF.out.mono ?_); rintro e w7 ⟨rfl, hRx, hKx⟩
                           have HR7 := Lib.hid hRx
                           have HB7 := Lib.hid (HB6.out.keep hKx hrb)
                           have HL7 := Lib.hid (HL6.out.keep1 hKx hrb7)
                           skip
                           clear hRx hKx))
                      clear HF HR6 HB6 HL6
                      by_cases h34 : cc = 34
                      · have hk34 : hasM S.data.toList a [34] = true := by rw [hasM_one (by decide)]; simpa using UInt8.toNat_inj.1 (show (nx S.data.toList a).toNat = (34 : UInt8).toNat by rw [← HCC.out]; exact h34)
                        have HK34 := Lib.hid hk34
                        have HV := Lib.hid (vm_text (f := f) h16 hk34)
                        have hno : false = false → hasM S.data.toList a [34] = true → quotedM S.data.toList f (a + 1) [] ≠ .out := fun _ h h2 => HO.out (by rw [HV.out, h2])
                        have HC := Lib.hid (rquotedN (f := f) HR7.out ha hS hno)
                        have hci : ((cc : Int) == 34) = true := by simp [h34]
                        clear hk34 hno
                        go_wp2_with (first
                          | (go_at_call 91; (with_reducible refine HC.out.mono ?_); rintro e v2 ⟨t, bad, a', rfl, hRx, hle, hKx, hcase⟩
                             have HRb := Lib.hid hRx
                             have HBb := Lib.hid (HB7.out.keep hKx hrb)
                             have HLb := Lib.hid (HL7.out.keep1 hKx hrb7)
                             have hob := HBb.out.out; have o0 := hob.cell 0 rfl; have o1 := hob.cell 1 rfl; have o2 := hob.cell 2 rfl; have o3 := hob.cell 3 rfl; have o4 := hob.cell 4 rfl; have p0 := hob.free 0 (by simp [V5]); have p1 := hob.free 1 (by simp [V5]); have p2 := hob.free 2 (by simp [V5]); have p3 := hob.free 3 (by simp [V5]); have p4 := hob.free 4 (by simp [V5]); clear hob; have HCA := Lib.hid hcase; clear hcase
                             clear hRx hKx))
                        refine o_fin rfl HRb.out HBb.out hrb ?_
                        intro wq hRq hKq hsame
                        rw [HV.out]
                        rcases HCA.out with ⟨rfl, _, hle2, hn, hn2⟩ | ⟨rfl, hn | hn | ⟨hn, hn2⟩⟩
                        · rw [hn2]; exact rv_ok hN hRq hle2 hKq
                        · cases hn
                        · rw [HK34.out] at hn; cases hn
                        · rw [hn2]; exact rv_bad hD16 hRq hle hKq
                      · have e34 : ((cc : Int) == 34) = false := by simp; omega
                        have hk34f : hasM S.data.toList a [34] = false := hasM_ne (fun e => h34 (by rw [HCC.out, e]; rfl)) (by decide)
                        clear h34
                        go_upto_region 27 with fail
                        clear e34
                        cases hkname : hasM S.data.toList a [64]
                        · have HF := Lib.hid (wordF (t := ⟨#[64]⟩) HR7.out (by omega) hS (by decide) (by decide) hkname)
                          go_upto_region 29 with (first
                            | (go_at_call 88; (with_reducible refine HF.out.mono ?_); rintro e w8 ⟨rfl, hRx, hKx⟩
                               have HR8 := Lib.hid hRx
                               have HB8 := Lib.hid (HB7.out.keep hKx hrb)
                               have HL8 := Lib.hid (HL7.out.keep1 hKx hrb7)
                               skip
                               clear hRx hKx))
                          clear HF HR7 HB7 HL7
                          cases hkbytes : hasM S.data.toList a [37]
                          · have HF := Lib.hid (wordF (t := ⟨#[37]⟩) HR8.out (by omega) hS (by decide) (by decide) hkbytes)
                            go_upto_region 36 with (first
                              | (go_at_call 88; (with_reducible refine HF.out.mono ?_); rintro e w9 ⟨rfl, hRx, hKx⟩
                                 have HR9 := Lib.hid hRx
                                 have HB9 := Lib.hid (HB8.out.keep hKx hrb)
                                 have HL9 := Lib.hid (HL8.out.keep1 hKx hrb7)
                                 skip
                                 clear hRx hKx))
                            clear HF HR8 HB8 HL8
                            cases hklist : hasM S.data.toList a [91]
                            · have HF := Lib.hid (wordF (t := ⟨#[91]⟩) HR9.out (by omega) hS (by decide) (by decide) hklist)
                              go_upto_region 38 with (first
                                | (go_at_call 88; (with_reducible refine HF.out.mono ?_); rintro e w10 ⟨rfl, hRx, hKx⟩
                                   have HR10 := Lib.hid hRx
                                   have HB10 := Lib.hid (HB9.out.keep hKx hrb)
                                   have HL10 := Lib.hid (HL9.out.keep1 hKx hrb7)
                                   skip
                                   clear hRx hKx))
                              clear HF HR9 HB9 HL9
                              cases hkpair : hasM S.data.toList a [40]
                              · have HF := Lib.hid (wordF (t := ⟨#[40]⟩) HR10.out (by omega) hS (by decide) (by decide) hkpair)
                                go_upto_region 40 with (first
                                  | (go_at_call 88; (with_reducible refine HF.out.mono ?_); rintro e w11 ⟨rfl, hRx, hKx⟩
                                     have HR11 := Lib.hid hRx
                                     have HB11 := Lib.hid (HB10.out.keep hKx hrb)
                                     have HL11 := Lib.hid (HL10.out.keep1 hKx hrb7)
                                     skip
                                     clear hRx hKx))
                                clear HF HR10 HB10 HL10
                                cases hkerr : hasM S.data.toList a [33]
                                · have HF := Lib.hid (wordF (t := ⟨#[33]⟩) HR11.out (by omega) hS (by decide) (by decide) hkerr)
                                  go_upto_region 43 with (first
                                    | (go_at_call 88; (with_reducible refine HF.out.mono ?_); rintro e w12 ⟨rfl, hRx, hKx⟩
                                       have HR12 := Lib.hid hRx
                                       have HB12 := Lib.hid (HB11.out.keep hKx hrb)
                                       have HL12 := Lib.hid (HL11.out.keep1 hKx hrb7)
                                       skip
                                       clear hRx hKx))
                                  clear HF HR11 HB11 HL11
                                  cases hkptr : hasM S.data.toList a [38]
                                  · have HF := Lib.hid (wordF (t := ⟨#[38]⟩) HR12.out (by omega) hS (by decide) (by decide) hkptr)
                                    go_upto_region 50 with (first
                                      | (go_at_call 88; (with_reducible refine HF.out.mono ?_); rintro e w13 ⟨rfl, hRx, hKx⟩
                                         have HR13 := Lib.hid hRx
                                         have HB13 := Lib.hid (HB12.out.keep hKx hrb)
                                         have HL13 := Lib.hid (HL12.out.keep1 hKx hrb7)
                                         skip
                                         clear hRx hKx))
                                    clear HF HR12 HB12 HL12
                                    have HV := Lib.hid (vm_none (f := f) h16 hknil hktrue hkfalse hkunit hknoptr hkkey hkfloat hkname hkbytes hkerr hkptr hklist hkpair hk34f (no_number (by rw [← HCC.out]; exact hn45) (by rw [← HCC.out]; exact hnd)))
                                    have e4 := HR13.out.cell 4 rfl
                                    have f4 := HR13.out.free 4 (by simp)
                                    have hob := HB13.out.out; have o0 := hob.cell 0 rfl; have o1 := hob.cell 1 rfl; have o2 := hob.cell 2 rfl; have o3 := hob.cell 3 rfl; have o4 := hob.cell 4 rfl; have p0 := hob.free 0 (by simp [V5]); have p1 := hob.free 1 (by simp [V5]); have p2 := hob.free 2 (by simp [V5]); have p3 := hob.free 3 (by simp [V5]); have p4 := hob.free 4 (by simp [V5]); clear hob
                                    have HRz := Lib.hid (rr_bad HR13.out).1
                                    have HBz := Lib.hid (HB13.out.keep (rr_bad HR13.out).2 hrb)
                                    go_wp2_with fail
                                    refine o_fin rfl HRz.out HBz.out hrb ?_
                                    intro wq hRq hKq hsame
                                    rw [HV.out]
                                    exact rv_bad hD16 hRq (by omega) hKq
                                  · have hk := hkptr
                                    have HV := Lib.hid (vm_ptr (f := f) h16 hk hknoptr)
                                    rw [← HDD.out] at HV
                                    have hat : a + 1 ≤ S.size := hasM_end (t := ⟨#[38]⟩) ha hk
                                    have HT := Lib.hid (wordT (t := ⟨#[38]⟩) HR12.out (by omega) hS (by decide) (by decide) hk)
                                    go_upto_region 45 with (first
                                      | (go_at_call 88; (with_reducible refine HT.out.mono ?_); rintro e v1 ⟨rfl, hRx, hKx⟩
                                         have hRx : Rr v1 rb S (a + 1) D N false := hRx
                                         have HRa := Lib.hid hRx
                                         have HBa := Lib.hid (HB12.out.keep hKx hrb)
                                         have HLa := Lib.hid (HL12.out.keep1 hKx hrb7)
                                         have HC := Lib.hid (rnumberN hRx hat hS HLa.out hrb7)
                                         clear hRx hKx)
                                      | (go_at_call 89; (with_reducible refine HC.out.mono ?_); rintro e v2 ⟨v, a', bad, rfl, hRx, hle, hKx, hcase⟩
                                         have HRb := Lib.hid hRx
                                         have HBb := Lib.hid (HBa.out.keep hKx hrb)
                                         have HLb := Lib.hid (HLa.out.keep1 hKx hrb7)
                                         have HCA := Lib.hid hcase; clear hcase
                                         clear hRx hKx))
                                    have hKal : Kept (N1 rb) v2 (v2.alloc (.cells #[.int .i64 11, .int .i64 v, .int .u64 0, .string ⟨#[]⟩, .slice none 0 0] 25)) := (Kept.refl _ _).alloc _
                                    have HRy := Lib.hid (Blk.alloc HRb.out (.cells #[.int .i64 11, .int .i64 v, .int .u64 0, .string ⟨#[]⟩, .slice none 0 0] 25))
                                    have HBy := Lib.hid (HBb.out.keep hKal hrb)
                                    have HLy := Lib.hid (HLb.out.keep1 hKal hrb7)
                                    have HPy := Lib.hid (Blk.new v2 #[.int .i64 11, .int .i64 v, .int .u64 0, .string ⟨#[]⟩, .slice none 0 0] 25)
                                    have hPw : w.heap.size < v2.heap.size := HBb.out.out.lt
                                    generalize v2.alloc (.cells #[.int .i64 11, .int .i64 v, .int .u64 0, .string ⟨#[]⟩, .slice none 0 0] 25) = y0 at *
                                    generalize v2.heap.size = P at *
                                    have hPrb : ¬ N1 rb P := by unfold N1; omega
                                    clear hKal
                                    rcases HCA.out with ⟨rfl, hto, hn1⟩ | ⟨rfl, hn1⟩
                                    · cases hp : hasM S.data.toList a' [40]
                                      · have HHP := Lib.hid hp
                                        have HTO := Lib.hid hto
                                        clear hto
                                        have HC3 := Lib.hid (wordF (t := ⟨#[40]⟩) HRy.out (by omega) hS (by decide) (by decide) hp)
                                        go_wp2_with (first
                                          | (go_at_call 88; (with_reducible refine HC3.out.mono ?_); rintro e v3 ⟨rfl, hRx, hKx⟩
                                             have HRc := Lib.hid hRx
                                             have HBc := Lib.hid (HBy.out.keep hKx hrb)
                                             have HLc := Lib.hid (HLy.out.keep1 hKx hrb7)
                                             have HPc := Lib.hid (HPy.out.keep hKx hPrb); have e4 := hRx.cell 4 rfl; have f4 := hRx.free 4 (by simp); have q0 := HPc.out.cell 0 rfl; have q1 := HPc.out.cell 1 rfl; have q2 := HPc.out.cell 2 rfl; have q3 := HPc.out.cell 3 rfl; have q4 := HPc.out.cell 4 rfl; have g4 := HPc.out.free 4 (by simp); have hob := HBc.out.out; have o0 := hob.cell 0 rfl; have o1 := hob.cell 1 rfl; have o2 := hob.cell 2 rfl; have o3 := hob.cell 3 rfl; have o4 := hob.cell 4 rfl; have p0 := hob.free 0 (by simp [V5]); have p1 := hob.free 1 (by simp [V5]); have p2 := hob.free 2 (by simp [V5]); have p3 := hob.free 3 (by simp [V5]); have p4 := hob.free 4 (by simp [V5]); clear hob
                                             clear hRx hKx))
                                        have HRz := Lib.hid (rr_bad HRc.out).1
                                        have HBz := Lib.hid (HBc.out.keep (rr_bad HRc.out).2 hrb)
                                        refine o_fin rfl HRz.out HBz.out hrb ?_
                                        intro wq hRq hKq hsame
                                        rw [HV.out, hn1]
                                        simp only
                                        rw [if_neg (by rw [← HTO.out, HHP.out]; simp)]
                                        exact rv_bad hD16 hRq (by omega) hKq
                                      · have HP4 := Lib.hid (show hasM S.data.toList (numTo S.data.toList (a + 1)) [40] = true by rw [← hto]; exact hp)
                                        have HNO2 := Lib.hid (show rowM S.data.toList f D (a' + 1) [41] .nil ≠ .out from fun h2 => HO.out (by rw [HV.out, hn1]; simp only; rw [if_pos HP4.out, ← hto, h2]; rfl))
                                        have HTO := Lib.hid hto
                                        clear hto
                                        have hp1 : a' + 1 ≤ S.size := hasM_in (t := ⟨#[40]⟩) (by decide) hp
                                        have HC3 := Lib.hid (wordT (t := ⟨#[40]⟩) HRy.out (by omega) hS (by decide) (by decide) hp)
                                        go_upto_region 49 with (first
                                          | (go_at_call 88; (with_reducible refine HC3.out.mono ?_); rintro e v3 ⟨rfl, hRx, hKx⟩
                                             have hRx : Rr v3 rb S (a' + 1) D N _ := hRx
                                             have HRc := Lib.hid hRx
                                             have HBc := Lib.hid (HBy.out.keep hKx hrb)
                                             have HLc := Lib.hid (HLy.out.keep1 hKx hrb7)
                                             have HPc := Lib.hid (HPy.out.keep hKx hPrb); have HC4 := Lib.hid (HROK.out rb (a' + 1) D N ⟨#[41]⟩ v3 hRx hp1 hD16 hN HLc.out hrb7 (by decide) (by decide) (no_end 41 (by decide) (by decide)) HNO2.out)
                                             clear hRx hKx)
                                          | (go_at_call 92; (with_reducible refine HC4.out.mono ?_); rintro e v4 hpost
                                             obtain ⟨l, m, c, bad, a2, D', n', rfl, hRx, hle2, hd1, hd2, hKx, hcase⟩ := rrp_any hpost HNO2.out hD16
                                             have HRd := Lib.hid hRx
                                             have HBd := Lib.hid (HBc.out.keep hKx hrb)
                                             have HLd := Lib.hid (HLc.out.keep1 hKx hrb7)
                                             have HPd := Lib.hid (HPc.out.keep hKx hPrb); have q4 := HPd.out.cell 4 rfl; have g4 := HPd.out.free 4 (by simp); have HCB := Lib.hid hcase; have HSZ4 := Lib.hid hKx.size; clear hcase
                                             clear hRx hKx))
                                        have HKz := Lib.hid (show Kept (N1 P) v4 (v4.setCell ⟨P, 4, none⟩ (.slice l m c)) from (Kept.refl (N1 P) v4).put (p := ⟨P, 4, none⟩) _ (fun _ => rfl))
                                        have HPz := Lib.hid (show Blk (v4.setCell ⟨P, 4, none⟩ (.slice l m c)) P [.int .i64 11, .int .i64 v, .int .u64 0, .string ⟨#[]⟩, .slice l m c] by simpa using Blk.set HPd.out (j := 4) (.slice l m c))
                                        have HRz := Lib.hid (HRd.out.keep HKz.out (by unfold N1; omega))
                                        have HBz := Lib.hid (show Ox w (v4.setCell ⟨P, 4, none⟩ (.slice l m c)) rb _ from ⟨HBd.out.out.keep HKz.out (by unfold N1; omega), HBd.out.kept.over HKz.out (by omega)⟩)
                                        have HZ4 := Lib.hid (show P < v3.heap.size ∧ v3.heap.size ≤ v4.heap.size from ⟨HPc.out.lt, HSZ4.out⟩)
                                        clear q4 g4
                                        generalize v4.setCell ⟨P, 4, none⟩ (.slice l m c) = z at *
                                        have q0 := HPz.out.cell 0 rfl; have q1 := HPz.out.cell 1 rfl; have q2 := HPz.out.cell 2 rfl; have q3 := HPz.out.cell 3 rfl; have q4 := HPz.out.cell 4 rfl; have g4 := HPz.out.free 4 (by simp)
                                        have hob := HBz.out.out; have o0 := hob.cell 0 rfl; have o1 := hob.cell 1 rfl; have o2 := hob.cell 2 rfl; have o3 := hob.cell 3 rfl; have o4 := hob.cell 4 rfl; have p0 := hob.free 0 (by simp [V5]); have p1 := hob.free 1 (by simp [V5]); have p2 := hob.free 2 (by simp [V5]); have p3 := hob.free 3 (by simp [V5]); have p4 := hob.free 4 (by simp [V5]); clear hob
                                        go_wp2_with fail
                                        refine o_fin rfl HRz.out HBz.out hrb ?_
                                        intro wq hRq hKq hsame
                                        rw [HV.out, hn1]
                                        simp only
                                        rw [if_pos HP4.out, ← HTO.out]
                                        exact rv_row 11 v HNO2.out HCB.out hRq hle2 hd1 hd2 hKq (fun x hx hlt => (hsame x (by have := HZ4.out.1; omega) (by have := HKz.out.size; omega)).trans (HKz.out.block x hlt (fun e => by unfold N1 at e; have := HZ4.out.1; omega))) (by have := HZ4.out.1; omega)
                                    · cases hp : hasM S.data.toList a' [40]
                                      · skip
                                        have HC3 := Lib.hid (wordF (t := ⟨#[40]⟩) HRy.out (by omega) hS (by decide) (by decide) hp)
                                        go_wp2_with (first
                                          | (go_at_call 88; (with_reducible refine HC3.out.mono ?_); rintro e v3 ⟨rfl, hRx, hKx⟩
                                             have HRc := Lib.hid hRx
                                             have HBc := Lib.hid (HBy.out.keep hKx hrb)
                                             have HLc := Lib.hid (HLy.out.keep1 hKx hrb7)
                                             have HPc := Lib.hid (HPy.out.keep hKx hPrb); have e4 := hRx.cell 4 rfl; have f4 := hRx.free 4 (by simp); have q0 := HPc.out.cell 0 rfl; have q1 := HPc.out.cell 1 rfl; have q2 := HPc.out.cell 2 rfl; have q3 := HPc.out.cell 3 rfl; have q4 := HPc.out.cell 4 rfl; have g4 := HPc.out.free 4 (by simp); have hob := HBc.out.out; have o0 := hob.cell 0 rfl; have o1 := hob.cell 1 rfl; have o2 := hob.cell 2 rfl; have o3 := hob.cell 3 rfl; have o4 := hob.cell 4 rfl; have p0 := hob.free 0 (by simp [V5]); have p1 := hob.free 1 (by simp [V5]); have p2 := hob.free 2 (by simp [V5]); have p3 := hob.free 3 (by simp [V5]); have p4 := hob.free 4 (by simp [V5]); clear hob
                                             clear hRx hKx))
                                        have HRz := Lib.hid (rr_bad HRc.out).1
                                        have HBz := Lib.hid (HBc.out.keep (rr_bad HRc.out).2 hrb)
                                        refine o_fin rfl HRz.out HBz.out hrb ?_
                                        intro wq hRq hKq hsame
                                        rw [HV.out, hn1]
                                        skip
                                        exact rv_bad hD16 hRq (by omega) hKq
                                      · skip
                                        have hp1 : a' + 1 ≤ S.size := hasM_in (t := ⟨#[40]⟩) (by decide) hp
                                        have HC3 := Lib.hid (wordT (t := ⟨#[40]⟩) HRy.out (by omega) hS (by decide) (by decide) hp)
                                        go_upto_region 49 with (first
                                          | (go_at_call 88; (with_reducible refine HC3.out.mono ?_); rintro e v3 ⟨rfl, hRx, hKx⟩
                                             have hRx : Rr v3 rb S (a' + 1) D N _ := hRx
                                             have HRc := Lib.hid hRx
                                             have HBc := Lib.hid (HBy.out.keep hKx hrb)
                                             have HLc := Lib.hid (HLy.out.keep1 hKx hrb7)
                                             have HPc := Lib.hid (HPy.out.keep hKx hPrb); have HC4 := Lib.hid (rrowsB (D := D) (t := ⟨#[41]⟩) hRx (Nat.le_succ_of_le hp1) hS (by decide) (by decide) (Nat.le_refl _) (by omega))
                                             clear hRx hKx)
                                          | (go_at_call 92; (with_reducible refine HC4.out.mono ?_); rintro e v4 hpost
                                             obtain ⟨⟨l, m, c, rfl⟩, a2, D', n', hRx, hle2, hd1, hd2, hKx⟩ := hpost
                                             have HRd := Lib.hid hRx
                                             have HBd := Lib.hid (HBc.out.keep hKx hrb)
                                             have HLd := Lib.hid (HLc.out.keep1 hKx hrb7)
                                             have HPd := Lib.hid (HPc.out.keep hKx hPrb); have q4 := HPd.out.cell 4 rfl; have g4 := HPd.out.free 4 (by simp); have HSZ4 := Lib.hid hKx.size
                                             clear hRx hKx))
                                        have HKz := Lib.hid (show Kept (N1 P) v4 (v4.setCell ⟨P, 4, none⟩ (.slice l m c)) from (Kept.refl (N1 P) v4).put (p := ⟨P, 4, none⟩) _ (fun _ => rfl))
                                        have HPz := Lib.hid (show Blk (v4.setCell ⟨P, 4, none⟩ (.slice l m c)) P [.int .i64 11, .int .i64 v, .int .u64 0, .string ⟨#[]⟩, .slice l m c] by simpa using Blk.set HPd.out (j := 4) (.slice l m c))
                                        have HRz := Lib.hid (HRd.out.keep HKz.out (by unfold N1; omega))
                                        have HBz := Lib.hid (show Ox w (v4.setCell ⟨P, 4, none⟩ (.slice l m c)) rb _ from ⟨HBd.out.out.keep HKz.out (by unfold N1; omega), HBd.out.kept.over HKz.out (by omega)⟩)
                                        have HZ4 := Lib.hid (show P < v3.heap.size ∧ v3.heap.size ≤ v4.heap.size from ⟨HPc.out.lt, HSZ4.out⟩)
                                        clear q4 g4
                                        generalize v4.setCell ⟨P, 4, none⟩ (.slice l m c) = z at *
                                        have q0 := HPz.out.cell 0 rfl; have q1 := HPz.out.cell 1 rfl; have q2 := HPz.out.cell 2 rfl; have q3 := HPz.out.cell 3 rfl; have q4 := HPz.out.cell 4 rfl; have g4 := HPz.out.free 4 (by simp)
                                        have hob := HBz.out.out; have o0 := hob.cell 0 rfl; have o1 := hob.cell 1 rfl; have o2 := hob.cell 2 rfl; have o3 := hob.cell 3 rfl; have o4 := hob.cell 4 rfl; have p0 := hob.free 0 (by simp [V5]); have p1 := hob.free 1 (by simp [V5]); have p2 := hob.free 2 (by simp [V5]); have p3 := hob.free 3 (by simp [V5]); have p4 := hob.free 4 (by simp [V5]); clear hob
                                        go_wp2_with fail
                                        refine o_fin rfl HRz.out HBz.out hrb ?_
                                        intro wq hRq hKq hsame
                                        rw [HV.out, hn1]
                                        exact ⟨⟨_, _, _, _, _, _, _, rfl⟩, .inl ⟨a2, D', n', hRq, hle2, hd1, hd2, hKq⟩⟩
                                · have hk := hkerr
                                  have HV := Lib.hid (vm_err (f := f) h16 hk)
                                  have HNO := Lib.hid (show ∀ v, numberM S.data.toList (a + 1) = some v → hasM S.data.toList (numTo S.data.toList (a + 1)) [34] = true → quotedM S.data.toList f (numTo S.data.toList (a + 1) + 1) [] ≠ .out from fun v h1 h h2 => HO.out (by rw [HV.out, h1]; simp only [if_pos h, h2]))
                                  have hat : a + 1 ≤ S.size := hasM_end (t := ⟨#[33]⟩) ha hk
                                  have HT := Lib.hid (wordT (t := ⟨#[33]⟩) HR11.out (by omega) hS (by decide) (by decide) hk)
                                  go_wp2_with (first
                                    | (go_at_call 88; (with_reducible refine HT.out.mono ?_); rintro e v1 ⟨rfl, hRx, hKx⟩
                                       have hRx : Rr v1 rb S (a + 1) D N false := hRx
                                       have HRa := Lib.hid hRx
                                       have HBa := Lib.hid (HB11.out.keep hKx hrb)
                                       have HLa := Lib.hid (HL11.out.keep1 hKx hrb7)
                                       have HC := Lib.hid (rnumberN hRx hat hS HLa.out hrb7)
                                       clear hRx hKx)
                                    | (go_at_call 89; (with_reducible refine HC.out.mono ?_); rintro e v2 ⟨v, a', bad, rfl, hRx, hle, hKx, hcase⟩
                                       have HRb := Lib.hid hRx
                                       have HBb := Lib.hid (HBa.out.keep hKx hrb)
                                       have HLb := Lib.hid (HLa.out.keep1 hKx hrb7)
                                       have HCA := Lib.hid hcase; have HC2 := Lib.hid (rquotedN (f := f) hRx hle hS (rerrc hcase HNO.out)); clear hcase
                                       clear hRx hKx)
                                    | (go_at_call 91; (with_reducible refine HC2.out.mono ?_); rintro e v3 ⟨t, bad2, a2, rfl, hRx, hle2, hKx, hcase⟩
                                       have HRc := Lib.hid hRx
                                       have HBc := Lib.hid (HBb.out.keep hKx hrb)
                                       have HLc := Lib.hid (HLb.out.keep1 hKx hrb7)
                                       have hob := HBc.out.out; have o0 := hob.cell 0 rfl; have o1 := hob.cell 1 rfl; have o2 := hob.cell 2 rfl; have o3 := hob.cell 3 rfl; have o4 := hob.cell 4 rfl; have p0 := hob.free 0 (by simp [V5]); have p1 := hob.free 1 (by simp [V5]); have p2 := hob.free 2 (by simp [V5]); have p3 := hob.free 3 (by simp [V5]); have p4 := hob.free 4 (by simp [V5]); clear hob; have HCB := Lib.hid hcase; clear hcase
                                       clear hRx hKx))
                                  refine o_fin rfl HRc.out HBc.out hrb ?_
                                  intro wq hRq hKq hsame
                                  rw [HV.out]
                                  rcases HCA.out with ⟨rfl, rfl, hn1⟩ | ⟨rfl, hn1⟩
                                  · rw [hn1]
                                    rcases HCB.out with ⟨rfl, _, hle3, hn, hn2⟩ | ⟨rfl, hn | hn | ⟨hn, hn2⟩⟩
                                    · simp only [if_pos hn, hn2]; exact rv_ok hN hRq hle3 hKq
                                    · cases hn
                                    · simp only [if_neg (show ¬ hasM S.data.toList (numTo S.data.toList (a + 1)) [34] = true by rw [hn]; simp)]; exact rv_bad hD16 hRq hle2 hKq
                                    · simp only [if_pos hn, hn2]; exact rv_bad hD16 hRq hle2 hKq
                                  · rw [hn1]
                                    rcases HCB.out with ⟨rfl, hn, _⟩ | ⟨rfl, _⟩
                                    · cases hn
                                    · exact rv_bad hD16 hRq hle2 hKq
                              · have hk := hkpair
                                have HV := Lib.hid (vm_pair (f := f) h16 hk)
                                rw [← HDD.out] at HV
                                have HNO := Lib.hid (show rowM S.data.toList f D (a + 1) [41] .nil ≠ .out from fun h2 => HO.out (by rw [HV.out, h2]; rfl))
                                have hat : a + 1 ≤ S.size := hasM_end (t := ⟨#[40]⟩) ha hk
                                have HT := Lib.hid (wordT (t := ⟨#[40]⟩) HR10.out (by omega) hS (by decide) (by decide) hk)
                                go_wp2_with (first
                                  | (go_at_call 88; (with_reducible refine HT.out.mono ?_); rintro e v1 ⟨rfl, hRx, hKx⟩
                                     have hRx : Rr v1 rb S (a + 1) D N false := hRx
                                     have HRa := Lib.hid hRx
                                     have HBa := Lib.hid (HB10.out.keep hKx hrb)
                                     have HLa := Lib.hid (HL10.out.keep1 hKx hrb7)
                                     have HSZ9 := Lib.hid (show w.heap.size + 1 ≤ v1.heap.size from HBa.out.out.lt); have HC := Lib.hid (HROK.out rb (a + 1) D N ⟨#[41]⟩ v1 hRx hat hD16 hN HLa.out hrb7 (by decide) (by decide) (no_end 41 (by decide) (by decide)) HNO.out)
                                     clear hRx hKx)
                                  | (go_at_call 92; (with_reducible refine HC.out.mono ?_); rintro e v2 hpost
                                     obtain ⟨l, m, c, bad, a', D', n', rfl, hRx, hle, hd1, hd2, hKx, hcase⟩ := rrp_any hpost HNO.out hD16
                                     have HRb := Lib.hid hRx
                                     have HBb := Lib.hid (HBa.out.keep hKx hrb)
                                     have HLb := Lib.hid (HLa.out.keep1 hKx hrb7)
                                     have hob := HBb.out.out; have o0 := hob.cell 0 rfl; have o1 := hob.cell 1 rfl; have o2 := hob.cell 2 rfl; have o3 := hob.cell 3 rfl; have o4 := hob.cell 4 rfl; have p0 := hob.free 0 (by simp [V5]); have p1 := hob.free 1 (by simp [V5]); have p2 := hob.free 2 (by simp [V5]); have p3 := hob.free 3 (by simp [V5]); have p4 := hob.free 4 (by simp [V5]); clear hob; have HCA := Lib.hid hcase; clear hcase
                                     clear hRx hKx))
                                refine o_fin rfl HRb.out HBb.out hrb ?_
                                intro wq hRq hKq hsame
                                rw [HV.out]
                                exact rv_row 9 0 HNO.out HCA.out hRq hle hd1 hd2 hKq (fun x hx hlt => hsame x (by have := HSZ9.out; omega) hlt) (by have := HSZ9.out; omega)
                            · have hk := hklist
                              have HV := Lib.hid (vm_list (f := f) h16 hk)
                              rw [← HDD.out] at HV
                              have HNO := Lib.hid (show rowM S.data.toList f D (a + 1) [93] .nil ≠ .out from fun h2 => HO.out (by rw [HV.out, h2]; rfl))
                              have hat : a + 1 ≤ S.size := hasM_end (t := ⟨#[91]⟩) ha hk
                              have HT := Lib.hid (wordT (t := ⟨#[91]⟩) HR9.out (by omega) hS (by decide) (by decide) hk)
                              go_wp2_with (first
                                | (go_at_call 88; (with_reducible refine HT.out.mono ?_); rintro e v1 ⟨rfl, hRx, hKx⟩
                                   have hRx : Rr v1 rb S (a + 1) D N false := hRx
                                   have HRa := Lib.hid hRx
                                   have HBa := Lib.hid (HB9.out.keep hKx hrb)
                                   have HLa := Lib.hid (HL9.out.keep1 hKx hrb7)
                                   have HSZ9 := Lib.hid (show w.heap.size + 1 ≤ v1.heap.size from HBa.out.out.lt); have HC := Lib.hid (HROK.out rb (a + 1) D N ⟨#[93]⟩ v1 hRx hat hD16 hN HLa.out hrb7 (by decide) (by decide) (no_end 93 (by decide) (by decide)) HNO.out)
                                   clear hRx hKx)
                                | (go_at_call 92; (with_reducible refine HC.out.mono ?_); rintro e v2 hpost
                                   obtain ⟨l, m, c, bad, a', D', n', rfl, hRx, hle, hd1, hd2, hKx, hcase⟩ := rrp_any hpost HNO.out hD16
                                   have HRb := Lib.hid hRx
                                   have HBb := Lib.hid (HBa.out.keep hKx hrb)
                                   have HLb := Lib.hid (HLa.out.keep1 hKx hrb7)
                                   have hob := HBb.out.out; have o0 := hob.cell 0 rfl; have o1 := hob.cell 1 rfl; have o2 := hob.cell 2 rfl; have o3 := hob.cell 3 rfl; have o4 := hob.cell 4 rfl; have p0 := hob.free 0 (by simp [V5]); have p1 := hob.free 1 (by simp [V5]); have p2 := hob.free 2 (by simp [V5]); have p3 := hob.free 3 (by simp [V5]); have p4 := hob.free 4 (by simp [V5]); clear hob; have HCA := Lib.hid hcase; clear hcase
                                   clear hRx hKx))
                              refine o_fin rfl HRb.out HBb.out hrb ?_
                              intro wq hRq hKq hsame
                              rw [HV.out]
                              exact rv_row 8 0 HNO.out HCA.out hRq hle hd1 hd2 hKq (fun x hx hlt => hsame x (by have := HSZ9.out; omega) hlt) (by have := HSZ9.out; omega)
                          · have hk := hkbytes
                            have HV := Lib.hid (vm_bytes (f := f) h16 hk)
                            obtain ⟨i0, hi, hy0, hy1, hy2⟩ := info_parts byteInfo
                            have hat : a + 1 ≤ S.size := hasM_end (t := ⟨#[37]⟩) ha hk
                            have HT := Lib.hid (wordT (t := ⟨#[37]⟩) HR8.out (by omega) hS (by decide) (by decide) hk)
                            generalize hW : whileM S.data.toList (a + 1) hexD = W at *
                            obtain ⟨E, hE⟩ : ∃ E, E = a + 1 + W := ⟨_, rfl⟩
                            have HE := Lib.hid hE
                            have hEl : E ≤ S.size := by rw [hE, ← hW, Lib.size_eq]; exact whileM_le _ _ _ (by rw [← Lib.size_eq]; exact hat)
                            generalize hrs : unpairM ((S.data.toList.drop (a + 1)).take W) = rs at *
                            have HRS := Lib.hid hrs
                            have HWW := Lib.hid hW
                            clear hE hW hrs
                            obtain ⟨o0, ho0⟩ : ∃ o0, o0 = rhexAt S.data.toList (a + 1) := ⟨_, rfl⟩
                            have HO0 := Lib.hid ho0
                            clear ho0
                            go_upto_region 32 with (first
                              | (go_at_call 88; (with_reducible refine HT.out.mono ?_); rintro e v1 ⟨rfl, hRx, hKx⟩
                                 have hRx : Rr v1 rb S (a + 1) D N false := hRx
                                 have HRa := Lib.hid hRx
                                 have HBa := Lib.hid (HB8.out.keep hKx hrb)
                                 have HLa := Lib.hid (HL8.out.keep1 hKx hrb7)
                                 have HC := Lib.hid (rhexG hRx (by omega))
                                 clear hRx hKx)
                              | (go_at_call 90; (with_reducible refine HC.out.mono ?_); rintro e v2 ⟨rfl, hRx, hKx⟩; have HRb := Lib.hid hRx; have HBb := Lib.hid (HBa.out.keep hKx hrb); have HLb := Lib.hid (HLa.out.keep1 hKx hrb7); clear hRx hKx))
                            have H0 := Lib.hid (show ∃ m, PR rb S D N w E rs m (.slice none 0 0) (.int .u8 (hbv (rhexAt S.data.toList (a + 1)))) (.bool (rhexAt S.data.toList (a + 1)).isSome) v2 from ⟨W, a + 1, [], none, 0, 0, rfl, rfl, rfl, rfl, by omega, hat, Row.nil _ _ _, HBb.out, HRb.out, HWW.out, HE.out.symm, by rw [HRS.out]; cases rs <;> rfl⟩)
                            clear HRb HBb HLb HC HBa HLa HRa
                            go_loopw [8, 9, 10] (fun t8 t9 t10 wr => ∃ m, PR rb S D N w E rs m t8 t9 t10 wr) (fun t8 t9 t10 wr => least (fun m => PR rb S D N w E rs m t8 t9 t10 wr))
                            case atStart => exact H0.out
                            case round =>
                              obtain ⟨m9, hm9, hle9⟩ : ∃ m, PR rb S D N w E rs m _ _ _ wr ∧ m ≤ least (fun m => PR rb S D N w E rs m _ _ _ wr) := ⟨_, least_spec hrel, Nat.le_refl _⟩
                              have HLE := Lib.hid hle9
                              obtain ⟨j, o, l, n, cap, rfl, rfl, rfl, hol, hnj, hj, hrow, hox, hRj, hmj, hjE, hun⟩ := hm9
                              clear hrel hle9 H0
                              have HROW := Lib.hid hrow
                              have HOX := Lib.hid hox
                              have HOL := Lib.hid hol
                              have HUN := Lib.hid hun
                              have HJE := Lib.hid (And.intro hmj hjE)
                              clear hrow hox hol hun hmj hjE
                              cases hx9 : rhexAt S.data.toList j with
                              | some b =>
                                rw [hx9] at hRj
                                replace hRj : Rr wr rb S (j + 2) D N false := hRj
                                have HRj := Lib.hid hRj
                                have hb9 : hbv (some b) = ((b.toNat : Nat) : Int) := rfl
                                have hs9 : (some b).isSome = true := rfl
                                obtain ⟨bn, hbn⟩ : ∃ bn, bn = b.toNat := ⟨_, rfl⟩
                                rw [hs9, hb9, ← hbn]
                                have HBN := Lib.hid hbn
                                have HX9 := Lib.hid hx9
                                have hj2 : j + 2 ≤ S.size := by
                                  unfold rhexAt at hx9
                                  split at hx9
                                  · rename_i h; rw [← Lib.size_eq] at h; exact h
                                  · cases hx9
                                have HR9 := fun o => Lib.hid (HROW.out.alloc o)
                                have HLS := Lib.hid (show w.heap.size + 1 ≤ wr.heap.size from HOX.out.out.lt)
                                have HS9 := Lib.hid (Src.oneAt (P := Tryd.prog) (w := wr) (tx := 53) Tryd.underlying53 (.int .u8 (bn : Nat)) 5 rfl (g := wr.heap.size) rfl)
                                have hrbB : rb < w.heap.size + 1 := by omega
                                clear hRj hx9 hb9 hs9 hbn
                                go_wp2_with (first
                                  | (at_builtin; refine wpList_append_row rfl _ _ 53 53 rfl 5 i0 (.int .u8 0) 1 1 Tryd.underlying53 hi hy0 hy1 hy2 rfl rfl (HR9 _).out 1 _ HS9.out (by unfold maxLen; omega) (by omega) (by have := HLS.out; simp; omega) ?_; intro a4 c4 w4 hrow hgr hbk4; have HG9 := Lib.hid hrow; have HRG := Lib.hid (rr_grown HRj.out HROW.out hrbB ((Below.refl _ _).alloc (Nat.le_refl _) _) hgr).1; have HOG := Lib.hid (ox_grown HOX.out HROW.out ((Below.refl _ _).alloc (Nat.le_refl _) _) hgr); have HC5 := Lib.hid (rhexG HRG.out (by omega)); clear hrow hgr hbk4)
                                  | (go_at_call 90; (with_reducible refine HC5.out.mono ?_); rintro e w5 ⟨rfl, hRx, hKx⟩; have HR5 := Lib.hid hRx; have HK5 := Lib.hid hKx; clear hRx hKx))
                                have hfin : PR rb S D N w E rs (m9 - 2) (.slice a4 (n + 1) c4) (.int .u8 (hbv (rhexAt S.data.toList (j + 2)))) (.bool (rhexAt S.data.toList (j + 2)).isSome) w5 := by
                                  have hm2 : ¬ m9 < 2 := fun h => by have h1 := hex_few (L := S.data.toList) (i := j) (by rw [HJE.out.1]; exact h); rw [HX9.out] at h1; cases h1
                                  obtain ⟨W9, hW9⟩ : ∃ W9, m9 = W9 + 2 := ⟨m9 - 2, by omega⟩
                                  obtain ⟨b', hb1, hb2, hb3, hb4, _⟩ := hex_two (L := S.data.toList) (i := j) (W := W9) (by rw [HJE.out.1, hW9])
                                  rw [HX9.out] at hb1
                                  cases hb1
                                  refine ⟨j + 2, o ++ [b], a4, n + 1, c4, rfl, rfl, rfl, by rw [List.length_append, HOL.out]; rfl, by omega, hj2, ?_, HOG.out.keep HK5.out hrb, HR5.out, by rw [hb2]; omega, by have := HJE.out.2; omega, ?_⟩
                                  · rw [B8_snoc, ← HBN.out]
                                    exact HG9.out.keep1 HK5.out hrbB
                                  · have h := HUN.out
                                    rw [hW9, hb4] at h
                                    rw [show m9 - 2 = W9 by omega, ← h]
                                    cases unpairM ((S.data.toList.drop (j + 2)).take W9) <;> simp
                                have hm2 : 2 ≤ m9 := by
                                  rcases Nat.lt_or_ge m9 2 with h | h
                                  · have h1 := hex_few (L := S.data.toList) (i := j) (by rw [HJE.out.1]; exact h); rw [HX9.out] at h1; cases h1
                                  · exact h
                                exact ⟨⟨m9 - 2, hfin⟩, Nat.lt_of_le_of_lt (least_le hfin) (by have := HLE.out; rw [HX9.out] at this; simp only [Option.isSome, hbv, ← HBN.out] at this; omega)⟩
                              | none =>
                                rw [hx9] at hRj
                                replace hRj : Rr wr rb S j D N false := hRj
                                have HRj := Lib.hid hRj
                                have HX9 := Lib.hid hx9
                                have hb9 : hbv none = (0 : Int) := rfl
                                have hs9 : (none : Option UInt8).isSome = false := rfl
                                rw [hs9, hb9]
                                have hcv := conv_row HROW.out
                                have hob := HOX.out.out; have o0 := hob.cell 0 rfl; have o1 := hob.cell 1 rfl; have o2 := hob.cell 2 rfl; have o3 := hob.cell 3 rfl; have o4 := hob.cell 4 rfl; have p0 := hob.free 0 (by simp [V5]); have p1 := hob.free 1 (by simp [V5]); have p2 := hob.free 2 (by simp [V5]); have p3 := hob.free 3 (by simp [V5]); have p4 := hob.free 4 (by simp [V5])
                                clear hRj hx9 hb9 hs9 hob
                                go_wp2_with fail
                                refine o_fin rfl HRj.out HOX.out hrb ?_
                                intro wq hRq hKq hsame
                                rw [HV.out]
                                have hm2 : m9 = 0 ∨ m9 = 1 := by
                                  rcases Nat.lt_or_ge m9 2 with h | h
                                  · omega
                                  · obtain ⟨b', hb1, _⟩ := hex_two (L := S.data.toList) (i := j) (W := m9 - 2) (by rw [HJE.out.1]; omega)
                                    rw [HX9.out] at hb1; cases hb1
                                rcases hm2 with rfl | rfl
                                · have h := HUN.out
                                  have hu : rs = some o := by rw [← h]; simp [unpairM]
                                  rw [hu]
                                  have hje := HJE.out.2
                                  rw [show a + 1 + W = j by have := HE.out; omega]
                                  exact rv_ok hN hRq hj hKq
                                · obtain ⟨h1, h2, _⟩ := hexrun_lt (L := S.data.toList) (i := j) (by rw [HJE.out.1]; omega)
                                  have h := HUN.out
                                  have hu : rs = none := by
                                    rw [← h, drop_at h1]
                                    rfl
                                  rw [hu]
                                  exact ⟨⟨_, _, _, _, _, _, _, rfl⟩, .inr ⟨j, N, hRq, by rw [Lib.size_eq]; exact h1, h2, hKq⟩⟩
                        · have hk := hkname
                          have HV := Lib.hid (vm_name (f := f) h16 hk)
                          have HNO := Lib.hid (show hasM S.data.toList (a + 1) [34] = true → quotedM S.data.toList f (a + 1 + 1) [] ≠ .out from fun h h2 => HO.out (by rw [HV.out, if_pos h, show a + 2 = a + 1 + 1 from rfl, h2]))
                          have hat : a + 1 ≤ S.size := hasM_end (t := ⟨#[64]⟩) ha hk
                          have HT := Lib.hid (wordT (t := ⟨#[64]⟩) HR7.out (by omega) hS (by decide) (by decide) hk)
                          go_wp2_with (first
                            | (go_at_call 88; (with_reducible refine HT.out.mono ?_); rintro e v1 ⟨rfl, hRx, hKx⟩
                               have hRx : Rr v1 rb S (a + 1) D N false := hRx
                               have HRa := Lib.hid hRx
                               have HBa := Lib.hid (HB7.out.keep hKx hrb)
                               have HLa := Lib.hid (HL7.out.keep1 hKx hrb7)
                               have HC := Lib.hid (rquotedN (f := f) hRx hat hS (fun e h => HNO.out h))
                               clear hRx hKx)
                            | (go_at_call 91; (with_reducible refine HC.out.mono ?_); rintro e v2 ⟨t, bad, a', rfl, hRx, hle, hKx, hcase⟩
                               have HRb := Lib.hid hRx
                               have HBb := Lib.hid (HBa.out.keep hKx hrb)
                               have HLb := Lib.hid (HLa.out.keep1 hKx hrb7)
                               have hob := HBb.out.out; have o0 := hob.cell 0 rfl; have o1 := hob.cell 1 rfl; have o2 := hob.cell 2 rfl; have o3 := hob.cell 3 rfl; have o4 := hob.cell 4 rfl; have p0 := hob.free 0 (by simp [V5]); have p1 := hob.free 1 (by simp [V5]); have p2 := hob.free 2 (by simp [V5]); have p3 := hob.free 3 (by simp [V5]); have p4 := hob.free 4 (by simp [V5]); clear hob; have HCA := Lib.hid hcase; clear hcase
                               clear hRx hKx))
                          refine o_fin rfl HRb.out HBb.out hrb ?_
                          intro wq hRq hKq hsame
                          rw [HV.out]
                          rcases HCA.out with ⟨rfl, _, hle2, hn, hn2⟩ | ⟨rfl, hn | hn | ⟨hn, hn2⟩⟩
                          · rw [if_pos hn, show a + 2 = a + 1 + 1 from rfl, hn2]; exact rv_ok hN hRq hle2 hKq
                          · cases hn
                          · rw [if_neg (by rw [hn]; simp)]; exact rv_bad hD16 hRq hle hKq
                          · rw [if_pos hn, show a + 2 = a + 1 + 1 from rfl, hn2]; exact rv_bad hD16 hRq hle hKq
                    · have hk := hkfloat
                      have HV := Lib.hid (vm_float (f := f) h16 hk hkfalse)
                      have hat : a + 1 ≤ S.size := hasM_end (t := ⟨#[102]⟩) ha hk
                      have HT := Lib.hid (wordT (t := ⟨#[102]⟩) HR6.out (by omega) hS (by decide) (by decide) hk)
                      generalize hW : whileM S.data.toList (a + 1) hexD = W at *
                      have HWW := Lib.hid hW
                      clear hW
                      go_upto_region 18 with (first
                        | (go_at_call 88; (with_reducible refine HT.out.mono ?_); rintro e v1 ⟨rfl, hRx, hKx⟩
                           have hRx : Rr v1 rb S (a + 1) D N false := hRx
                           have HRa := Lib.hid hRx
                           have HBa := Lib.hid (HB6.out.keep hKx hrb)
                           have HLa := Lib.hid (HL6.out.keep1 hKx hrb7)
                           skip
                           clear hRx hKx))
                      have hKal : Kept (N1 rb) v1 (v1.alloc (.cells #[.int .i64 3, .int .i64 0, .int .u64 0, .string ⟨#[]⟩, .slice none 0 0] 25)) := (Kept.refl _ _).alloc _
                      have HRy := Lib.hid (Blk.alloc HRa.out (.cells #[.int .i64 3, .int .i64 0, .int .u64 0, .string ⟨#[]⟩, .slice none 0 0] 25))
                      have HBy := Lib.hid (HBa.out.keep hKal hrb)
                      have HPy := Lib.hid (Blk.new v1 #[.int .i64 3, .int .i64 0, .int .u64 0, .string ⟨#[]⟩, .slice none 0 0] 25)
                      have hPw : w.heap.size < v1.heap.size := HBa.out.out.lt
                      generalize v1.alloc (.cells #[.int .i64 3, .int .i64 0, .int .u64 0, .string ⟨#[]⟩, .slice none 0 0] 25) = y0 at *
                      generalize v1.heap.size = P at *
                      have hPrb : ¬ N1 rb P := by unfold N1; omega
                      clear hKal
                      go_wp2_with fail
                      have H0 := Lib.hid (show ∃ m, FR rb S D N w P (a + 1) W m (.int .i64 0) y0 from ⟨8, 0, 0, rfl, rfl, by omega, HBy.out, HPy.out, .inl ⟨rfl, by omega, HRy.out⟩⟩)
                      go_loopw [5] (fun t5 wr => ∃ m, FR rb S D N w P (a + 1) W m t5 wr) (fun t5 wr => least (fun m => FR rb S D N w P (a + 1) W m t5 wr))
                      case atStart => exact H0.out
                      case round =>
                        obtain ⟨m9, hm9, hle9⟩ : ∃ m, FR rb S D N w P (a + 1) W m _ wr ∧ m ≤ least (fun m => FR rb S D N w P (a + 1) W m _ wr) := ⟨_, least_spec hrel, Nat.le_refl _⟩
                        have HLE := Lib.hid hle9
                        obtain ⟨k, bt, rfl, hm9, hk8, hox, hpb, hmode⟩ := hm9
                        clear hrel hle9 H0
                        have HOX := Lib.hid hox
                        have HPB := Lib.hid hpb
                        have HM9 := Lib.hid hm9
                        have HPN := Lib.hid (show w.heap.size ≠ P ∧ rb ≠ P ∧ rb ≠ w.heap.size from ⟨by omega, fun e => hPrb e.symm, by omega⟩)
                        clear hox hpb hm9
                        rcases hmode with ⟨hbt, hkW, hRk⟩ | ⟨hW16, q, hq9, hRk⟩
                        · have c4 := hRk.cell 4 rfl
                          have HRK := Lib.hid hRk
                          clear hRk
                          by_cases hlt : k < 8
                          · have hlti : (k : Int) < 8 := by omega
                            obtain ⟨q, hqq⟩ : ∃ q, q = a + 1 + 2 * k := ⟨_, rfl⟩
                            rw [← hqq] at HRK
                            have hqs : q ≤ S.size := by rw [hqq]; have h := whileM_le S.data.toList (a + 1) hexD (by rw [← Lib.size_eq]; exact hat); rw [HWW.out, ← Lib.size_eq] at h; omega
                            have HQQ := Lib.hid hqq
                            have HBT := Lib.hid hbt
                            have HKW := Lib.hid hkW
                            clear hqq hbt hkW
                            cases hx9 : rhexAt S.data.toList q with
                            | none =>
                              have HC := Lib.hid (rhex0 HRK.out (by omega) hx9)
                              have HX9 := Lib.hid hx9
                              clear hx9
                              go_wp2_with (first
                                | (go_at_call 90; (with_reducible refine HC.out.mono ?_); rintro e w2 ⟨rfl, hRx, hKx⟩; have HR2 := Lib.hid hRx; have HK2 := Lib.hid hKx; have HP2 := Lib.hid (HPB.out.keep hKx hPrb); have e4 := hRx.cell 4 rfl; have f4 := hRx.free 4 (by simp); have q2 := HP2.out.cell 2 rfl; have g2 := HP2.out.free 2 (by simp); clear hRx hKx))
                              have HR3 := Lib.hid (rr_bad HR2.out)
                              have hfin : FR rb S D N w P (a + 1) W (8 - (k + 1)) (.int .i64 ((k : Int) + 1)) ((w2.setCell ⟨rb, 4, none⟩ (.bool true)).setCell ⟨P, 2, none⟩ (.int .u64 (bits BinOp.or IntKind.u64 (IntKind.u64.wrap (bt * 256)) 0))) := by
                                have hox3 := (HOX.out.keep HK2.out hrb).keep HR3.out.2 hrb
                                have hp3 := HP2.out.keep HR3.out.2 hPrb
                                refine ⟨k + 1, _, by go_num, rfl, by omega, ⟨hox3.out.other (p := ⟨P, 2, none⟩) _ (fun e => HPN.out.1 e.symm), hox3.kept.put (p := ⟨P, 2, none⟩) _ (fun h => absurd h (by have := HPy.out.lt; show ¬ P < _; omega))⟩, by simpa using hp3.set (j := 2) (.int .u64 (bits BinOp.or IntKind.u64 (IntKind.u64.wrap (bt * 256)) 0)), .inr ⟨?_, q, hqs, Blk.other HR3.out.1 (p := ⟨P, 2, none⟩) _ (fun e => HPN.out.2.1 e.symm)⟩⟩
                                have h := hex_stop HWW.out (by rw [← HQQ.out]; exact HX9.out)
                                omega
                              exact ⟨⟨8 - (k + 1), hfin⟩, Nat.lt_of_le_of_lt (least_le hfin) (by have := HLE.out; have := HM9.out; omega)⟩
                            | some b =>
                              have HC := Lib.hid (rhexS HRK.out (by omega) hx9)
                              have HX9 := Lib.hid hx9
                              obtain ⟨bn, hbn⟩ : ∃ bn, bn = b.toNat := ⟨_, rfl⟩
                              rw [← hbn] at HC
                              have hb8 : bn < 256 := by rw [hbn]; exact b.toNat_lt
                              have HBN := Lib.hid hbn
                              clear hx9 hbn
                              go_wp2_with (first
                                | (go_at_call 90; (with_reducible refine HC.out.mono ?_); rintro e w2 ⟨rfl, hRx, hKx⟩; have HR2 := Lib.hid hRx; have HK2 := Lib.hid hKx; have HP2 := Lib.hid (HPB.out.keep hKx hPrb); have e4 := hRx.cell 4 rfl; have f4 := hRx.free 4 (by simp); have q2 := HP2.out.cell 2 rfl; have g2 := HP2.out.free 2 (by simp); clear hRx hKx))
                              have HR3 := Lib.hid (rr_badF HR2.out)
                              have hfin : FR rb S D N w P (a + 1) W (8 - (k + 1)) (.int .i64 ((k : Int) + 1)) ((w2.setCell ⟨rb, 4, none⟩ (.bool false)).setCell ⟨P, 2, none⟩ (.int .u64 (bits BinOp.or IntKind.u64 (IntKind.u64.wrap (bt * 256)) (bn : Nat)))) := by
                                have hox3 := (HOX.out.keep HK2.out hrb).keep HR3.out.2 hrb
                                have hp3 := HP2.out.keep HR3.out.2 hPrb
                                obtain ⟨h1, h2, h3⟩ := hex_next HWW.out HKW.out (by rw [← HQQ.out]; exact HX9.out)
                                refine ⟨k + 1, _, by go_num, rfl, by omega, ⟨hox3.out.other (p := ⟨P, 2, none⟩) _ (fun e => HPN.out.1 e.symm), hox3.kept.put (p := ⟨P, 2, none⟩) _ (fun h => absurd h (by have := HPy.out.lt; show ¬ P < _; omega))⟩, by simpa using hp3.set (j := 2) (.int .u64 (bits BinOp.or IntKind.u64 (IntKind.u64.wrap (bt * 256)) (bn : Nat))), .inl ⟨?_, h2, ?_⟩⟩
                                · rw [HBT.out, h1, HBN.out]
                                  exact bit_next (h3 hlt) b.toNat_lt
                                · rw [show a + 1 + 2 * (k + 1) = q + 2 by have := HQQ.out; omega]
                                  exact Blk.other HR3.out.1 (p := ⟨P, 2, none⟩) _ (fun e => HPN.out.2.1 e.symm)
                              exact ⟨⟨8 - (k + 1), hfin⟩, Nat.lt_of_le_of_lt (least_le hfin) (by have := HLE.out; have := HM9.out; omega)⟩
                          · have hlti : ¬ (k : Int) < 8 := by omega
                            obtain rfl : k = 8 := by omega
                            have HBT := Lib.hid hbt
                            clear hbt
                            have hP := HPB.out; have q0 := hP.cell 0 rfl; have q1 := hP.cell 1 rfl; have q2 := hP.cell 2 rfl; have q3 := hP.cell 3 rfl; have q4 := hP.cell 4 rfl
                            have hob := HOX.out.out; have o0 := hob.cell 0 rfl; have o1 := hob.cell 1 rfl; have o2 := hob.cell 2 rfl; have o3 := hob.cell 3 rfl; have o4 := hob.cell 4 rfl; have p0 := hob.free 0 (by simp [V5]); have p1 := hob.free 1 (by simp [V5]); have p2 := hob.free 2 (by simp [V5]); have p3 := hob.free 3 (by simp [V5]); have p4 := hob.free 4 (by simp [V5])
                            clear hob hP
                            go_wp2_with fail
                            refine o_fin rfl HRK.out HOX.out hrb ?_
                            intro wq hRq hKq hsame
                            rw [HV.out]
                            by_cases hW : W = 16
                            · rw [if_pos hW, ← HBT.out]
                              refine rv_ok hN hRq ?_ hKq
                              have h := whileM_le S.data.toList (a + 1) hexD (by rw [← Lib.size_eq]; exact hat)
                              rw [HWW.out, ← Lib.size_eq] at h
                              omega
                            · rw [if_neg hW]
                              have h1 := while_skip (L := S.data.toList) (p := a + 1) (n := 16) (by rw [HWW.out]; omega)
                              rw [HWW.out] at h1
                              obtain ⟨h2, h3, _⟩ := hexrun_lt (L := S.data.toList) (i := a + 1 + 16) (by rw [h1]; omega)
                              exact ⟨⟨_, _, _, _, _, _, _, rfl⟩, .inr ⟨a + 1 + 16, N, hRq, by rw [Lib.size_eq]; exact h2, h3, hKq⟩⟩
                        · have c4 := hRk.cell 4 rfl
                          have HRK := Lib.hid hRk
                          clear hRk
                          by_cases hlt : k < 8
                          · have hlti : (k : Int) < 8 := by omega
                            have hP := HPB.out; have q0 := hP.cell 0 rfl; have q1 := hP.cell 1 rfl; have q2 := hP.cell 2 rfl; have q3 := hP.cell 3 rfl; have q4 := hP.cell 4 rfl
                            have hob := HOX.out.out; have o0 := hob.cell 0 rfl; have o1 := hob.cell 1 rfl; have o2 := hob.cell 2 rfl; have o3 := hob.cell 3 rfl; have o4 := hob.cell 4 rfl; have p0 := hob.free 0 (by simp [V5]); have p1 := hob.free 1 (by simp [V5]); have p2 := hob.free 2 (by simp [V5]); have p3 := hob.free 3 (by simp [V5]); have p4 := hob.free 4 (by simp [V5])
                            clear hob hP
                            go_wp2_with fail
                            refine o_fin rfl HRK.out HOX.out hrb ?_
                            intro wq hRq hKq hsame
                            rw [HV.out]
                            rw [if_neg (by omega)]
                            exact rv_bad hD16 hRq (by omega) hKq
                          · have hlti : ¬ (k : Int) < 8 := by omega
                            have hP := HPB.out; have q0 := hP.cell 0 rfl; have q1 := hP.cell 1 rfl; have q2 := hP.cell 2 rfl; have q3 := hP.cell 3 rfl; have q4 := hP.cell 4 rfl
                            have hob := HOX.out.out; have o0 := hob.cell 0 rfl; have o1 := hob.cell 1 rfl; have o2 := hob.cell 2 rfl; have o3 := hob.cell 3 rfl; have o4 := hob.cell 4 rfl; have p0 := hob.free 0 (by simp [V5]); have p1 := hob.free 1 (by simp [V5]); have p2 := hob.free 2 (by simp [V5]); have p3 := hob.free 3 (by simp [V5]); have p4 := hob.free 4 (by simp [V5])
                            clear hob hP
                            go_wp2_with fail
                            refine o_fin rfl HRK.out HOX.out hrb ?_
                            intro wq hRq hKq hsame
                            rw [HV.out]
                            rw [if_neg (by omega)]
                            exact rv_bad hD16 hRq (by omega) hKq
                  · have hk := hkkey
                    have HV := Lib.hid (vm_key (f := f) h16 hk)
                    have hat : a + 1 ≤ S.size := hasM_end (t := ⟨#[35]⟩) ha hk
                    have HT := Lib.hid (wordT (t := ⟨#[35]⟩) HR5.out (by omega) hS (by decide) (by decide) hk)
                    go_wp2_with (first
                      | (go_at_call 88; (with_reducible refine HT.out.mono ?_); rintro e v1 ⟨rfl, hRx, hKx⟩
                         have hRx : Rr v1 rb S (a + 1) D N false := hRx
                         have HRa := Lib.hid hRx
                         have HBa := Lib.hid (HB5.out.keep hKx hrb)
                         have HLa := Lib.hid (HL5.out.keep1 hKx hrb7)
                         have HC := Lib.hid (rnumberN hRx hat hS HLa.out hrb7)
                         clear hRx hKx)
                      | (go_at_call 89; (with_reducible refine HC.out.mono ?_); rintro e v2 ⟨v, a', bad, rfl, hRx, hle, hKx, hcase⟩
                         have HRb := Lib.hid hRx
                         have HBb := Lib.hid (HBa.out.keep hKx hrb)
                         have HLb := Lib.hid (HLa.out.keep1 hKx hrb7)
                         have hob := HBb.out.out; have o0 := hob.cell 0 rfl; have o1 := hob.cell 1 rfl; have o2 := hob.cell 2 rfl; have o3 := hob.cell 3 rfl; have o4 := hob.cell 4 rfl; have p0 := hob.free 0 (by simp [V5]); have p1 := hob.free 1 (by simp [V5]); have p2 := hob.free 2 (by simp [V5]); have p3 := hob.free 3 (by simp [V5]); have p4 := hob.free 4 (by simp [V5]); clear hob; have HCA := Lib.hid hcase; clear hcase
                         clear hRx hKx))
                    refine o_fin rfl HRb.out HBb.out hrb ?_
                    intro wq hRq hKq hsame
                    rw [HV.out]
                    rcases HCA.out with ⟨rfl, rfl, hn⟩ | ⟨rfl, hn⟩
                    · rw [hn]; exact rv_ok hN hRq hle hKq
                    · rw [hn]; exact rv_bad hD16 hRq (by omega) hKq
              · have hnd : ¬ (48 ≤ cc ∧ cc ≤ 57) := by omega
                go_upto_region 14 with fail
                clear h48 e45
                cases hkkey : hasM S.data.toList a [35]
                · have HF := Lib.hid (wordF (t := ⟨#[35]⟩) HR5.out (by omega) hS (by decide) (by decide) hkkey)
                  go_upto_region 16 with (first
                    | (go_at_call 88; (with_reducible refine HF.out.mono ?_); rintro e w6 ⟨rfl, hRx, hKx⟩
                       have HR6 := Lib.hid hRx
                       have HB6 := Lib.hid (HB5.out.keep hKx hrb)
                       have HL6 := Lib.hid (HL5.out.keep1 hKx hrb7)
                       skip
                       clear hRx hKx))
                  clear HF HR5 HB5 HL5
                  cases hkfloat : hasM S.data.toList a [102]
                  · have HF := Lib.hid (wordF (t := ⟨#[102]⟩) HR6.out (by omega) hS (by decide) (by decide) hkfloat)
                    go_upto_region 25 with (first
                      | (go_at_call 88; (with_reducible refine HF.out.mono ?_); rintro e w7 ⟨rfl, hRx, hKx⟩
                         have HR7 := Lib.hid hRx
                         have HB7 := Lib.hid (HB6.out.keep hKx hrb)
                         have HL7 := Lib.hid (HL6.out.keep1 hKx hrb7)
                         skip
                         clear hRx hKx))
                    clear HF HR6 HB6 HL6
                    by_cases h34 : cc = 34
                    · have hk34 : hasM S.data.toList a [34] = true := by rw [hasM_one (by decide)]; simpa using UInt8.toNat_inj.1 (show (nx S.data.toList a).toNat = (34 : UInt8).toNat by rw [← HCC.out]; exact h34)
                      have HK34 := Lib.hid hk34
                      have HV := Lib.hid (vm_text (f := f) h16 hk34)
                      have hno : false = false → hasM S.data.toList a [34] = true → quotedM S.data.toList f (a + 1) [] ≠ .out := fun _ h h2 => HO.out (by rw [HV.out, h2])
                      have HC := Lib.hid (rquotedN (f := f) HR7.out ha hS hno)
                      have hci : ((cc : Int) == 34) = true := by simp [h34]
                      clear hk34 hno
                      go_wp2_with (first
                        | (go_at_call 91; (with_reducible refine HC.out.mono ?_); rintro e v2 ⟨t, bad, a', rfl, hRx, hle, hKx, hcase⟩
                           have HRb := Lib.hid hRx
                           have HBb := Lib.hid (HB7.out.keep hKx hrb)
                           have HLb := Lib.hid (HL7.out.keep1 hKx hrb7)
                           have hob := HBb.out.out; have o0 := hob.cell 0 rfl; have o1 := hob.cell 1 rfl; have o2 := hob.cell 2 rfl; have o3 := hob.cell 3 rfl; have o4 := hob.cell 4 rfl; have p0 := hob.free 0 (by simp [V5]); have p1 := hob.free 1 (by simp [V5]); have p2 := hob.free 2 (by simp [V5]); have p3 := hob.free 3 (by simp [V5]); have p4 := hob.free 4 (by simp [V5]); clear hob; have HCA := Lib.hid hcase; clear hcase
                           clear hRx hKx))
                      refine o_fin rfl HRb.out HBb.out hrb ?_
                      intro wq hRq hKq hsame
                      rw [HV.out]
                      rcases HCA.out with ⟨rfl, _, hle2, hn, hn2⟩ | ⟨rfl, hn | hn | ⟨hn, hn2⟩⟩
                      · rw [hn2]; exact rv_ok hN hRq hle2 hKq
                      · cases hn
                      · rw [HK34.out] at hn; cases hn
                      · rw [hn2]; exact rv_bad hD16 hRq hle hKq
                    · have e34 : ((cc : Int) == 34) = false := by simp; omega
                      have hk34f : hasM S.data.toList a [34] = false := hasM_ne (fun e => h34 (by rw [HCC.out, e]; rfl)) (by decide)
                      clear h34
                      go_upto_region 27 with fail
                      clear e34
                      cases hkname : hasM S.data.toList a [64]
                      · have HF := Lib.hid (wordF (t := ⟨#[64]⟩) HR7.out (by omega) hS (by decide) (by decide) hkname)
                        go_upto_region 29 with (first
                          | (go_at_call 88; (with_reducible refine HF.out.mono ?_); rintro e w8 ⟨rfl, hRx, hKx⟩
                             have HR8 := Lib.hid hRx
                             have HB8 := Lib.hid (HB7.out.keep hKx hrb)
                             have HL8 := Lib.hid (HL7.out.keep1 hKx hrb7)
                             skip
                             clear hRx hKx))
                        clear HF HR7 HB7 HL7
                        cases hkbytes : hasM S.data.toList a [37]
                        · have HF := Lib.hid (wordF (t := ⟨#[37]⟩) HR8.out (by omega) hS (by decide) (by decide) hkbytes)
                          go_upto_region 36 with (first
                            | (go_at_call 88; (with_reducible refine HF.out.mono ?_); rintro e w9 ⟨rfl, hRx, hKx⟩
                               have HR9 := Lib.hid hRx
                               have HB9 := Lib.hid (HB8.out.keep hKx hrb)
                               have HL9 := Lib.hid (HL8.out.keep1 hKx hrb7)
                               skip
                               clear hRx hKx))
                          clear HF HR8 HB8 HL8
                          cases hklist : hasM S.data.toList a [91]
                          · have HF := Lib.hid (wordF (t := ⟨#[91]⟩) HR9.out (by omega) hS (by decide) (by decide) hklist)
                            go_upto_region 38 with (first
                              | (go_at_call 88; (with_reducible refine HF.out.mono ?_); rintro e w10 ⟨rfl, hRx, hKx⟩
                                 have HR10 := Lib.hid hRx
                                 have HB10 := Lib.hid (HB9.out.keep hKx hrb)
                                 have HL10 := Lib.hid (HL9.out.keep1 hKx hrb7)
                                 skip
                                 clear hRx hKx))
                            clear HF HR9 HB9 HL9
                            cases hkpair : hasM S.data.toList a [40]
                            · have HF := Lib.hid (wordF (t := ⟨#[40]⟩) HR10.out (by omega) hS (by decide) (by decide) hkpair)
                              go_upto_region 40 with (first
                                | (go_at_call 88; (with_reducible refine HF.out.mono ?_); rintro e w11 ⟨rfl, hRx, hKx⟩
                                   have HR11 := Lib.hid hRx
                                   have HB11 := Lib.hid (HB10.out.keep hKx hrb)
                                   have HL11 := Lib.hid (HL10.out.keep1 hKx hrb7)
                                   skip
                                   clear hRx hKx))
                              clear HF HR10 HB10 HL10
                              cases hkerr : hasM S.data.toList a [33]
                              · have HF := Lib.hid (wordF (t := ⟨#[33]⟩) HR11.out (by omega) hS (by decide) (by decide) hkerr)
                                go_upto_region 43 with (first
                                  | (go_at_call 88; (with_reducible refine HF.out.mono ?_); rintro e w12 ⟨rfl, hRx, hKx⟩
                                     have HR12 := Lib.hid hRx
                                     have HB12 := Lib.hid (HB11.out.keep hKx hrb)
                                     have HL12 := Lib.hid (HL11.out.keep1 hKx hrb7)
                                     skip
                                     clear hRx hKx))
                                clear HF HR11 HB11 HL11
                                cases hkptr : hasM S.data.toList a [38]
                                · have HF := Lib.hid (wordF (t := ⟨#[38]⟩) HR12.out (by omega) hS (by decide) (by decide) hkptr)
                                  go_upto_region 50 with (first
                                    | (go_at_call 88; (with_reducible refine HF.out.mono ?_); rintro e w13 ⟨rfl, hRx, hKx⟩
                                       have HR13 := Lib.hid hRx
                                       have HB13 := Lib.hid (HB12.out.keep hKx hrb)
                                       have HL13 := Lib.hid (HL12.out.keep1 hKx hrb7)
                                       skip
                                       clear hRx hKx))
                                  clear HF HR12 HB12 HL12
                                  have HV := Lib.hid (vm_none (f := f) h16 hknil hktrue hkfalse hkunit hknoptr hkkey hkfloat hkname hkbytes hkerr hkptr hklist hkpair hk34f (no_number (by rw [← HCC.out]; exact hn45) (by rw [← HCC.out]; exact hnd)))
                                  have e4 := HR13.out.cell 4 rfl
                                  have f4 := HR13.out.free 4 (by simp)
                                  have hob := HB13.out.out; have o0 := hob.cell 0 rfl; have o1 := hob.cell 1 rfl; have o2 := hob.cell 2 rfl; have o3 := hob.cell 3 rfl; have o4 := hob.cell 4 rfl; have p0 := hob.free 0 (by simp [V5]); have p1 := hob.free 1 (by simp [V5]); have p2 := hob.free 2 (by simp [V5]); have p3 := hob.free 3 (by simp [V5]); have p4 := hob.free 4 (by simp [V5]); clear hob
                                  have HRz := Lib.hid (rr_bad HR13.out).1
                                  have HBz := Lib.hid (HB13.out.keep (rr_bad HR13.out).2 hrb)
                                  go_wp2_with fail
                                  refine o_fin rfl HRz.out HBz.out hrb ?_
                                  intro wq hRq hKq hsame
                                  rw [HV.out]
                                  exact rv_bad hD16 hRq (by omega) hKq
                                · have hk := hkptr
                                  have HV := Lib.hid (vm_ptr (f := f) h16 hk hknoptr)
                                  rw [← HDD.out] at HV
                                  have hat : a + 1 ≤ S.size := hasM_end (t := ⟨#[38]⟩) ha hk
                                  have HT := Lib.hid (wordT (t := ⟨#[38]⟩) HR12.out (by omega) hS (by decide) (by decide) hk)
                                  go_upto_region 45 with (first
                                    | (go_at_call 88; (with_reducible refine HT.out.mono ?_); rintro e v1 ⟨rfl, hRx, hKx⟩
                                       have hRx : Rr v1 rb S (a + 1) D N false := hRx
                                       have HRa := Lib.hid hRx
                                       have HBa := Lib.hid (HB12.out.keep hKx hrb)
                                       have HLa := Lib.hid (HL12.out.keep1 hKx hrb7)
                                       have HC := Lib.hid (rnumberN hRx hat hS HLa.out hrb7)
                                       clear hRx hKx)
                                    | (go_at_call 89; (with_reducible refine HC.out.mono ?_); rintro e v2 ⟨v, a', bad, rfl, hRx, hle, hKx, hcase⟩
                                       have HRb := Lib.hid hRx
                                       have HBb := Lib.hid (HBa.out.keep hKx hrb)
                                       have HLb := Lib.hid (HLa.out.keep1 hKx hrb7)
                                       have HCA := Lib.hid hcase; clear hcase
                                       clear hRx hKx))
                                  have hKal : Kept (N1 rb) v2 (v2.alloc (.cells #[.int .i64 11, .int .i64 v, .int .u64 0, .string ⟨#[]⟩, .slice none 0 0] 25)) := (Kept.refl _ _).alloc _
                                  have HRy := Lib.hid (Blk.alloc HRb.out (.cells #[.int .i64 11, .int .i64 v, .int .u64 0, .string ⟨#[]⟩, .slice none 0 0] 25))
                                  have HBy := Lib.hid (HBb.out.keep hKal hrb)
                                  have HLy := Lib.hid (HLb.out.keep1 hKal hrb7)
                                  have HPy := Lib.hid (Blk.new v2 #[.int .i64 11, .int .i64 v, .int .u64 0, .string ⟨#[]⟩, .slice none 0 0] 25)
                                  have hPw : w.heap.size < v2.heap.size := HBb.out.out.lt
                                  generalize v2.alloc (.cells #[.int .i64 11, .int .i64 v, .int .u64 0, .string ⟨#[]⟩, .slice none 0 0] 25) = y0 at *
                                  generalize v2.heap.size = P at *
                                  have hPrb : ¬ N1 rb P := by unfold N1; omega
                                  clear hKal
                                  rcases HCA.out with ⟨rfl, hto, hn1⟩ | ⟨rfl, hn1⟩
                                  · cases hp : hasM S.data.toList a' [40]
                                    · have HHP := Lib.hid hp
                                      have HTO := Lib.hid hto
                                      clear hto
                                      have HC3 := Lib.hid (wordF (t := ⟨#[40]⟩) HRy.out (by omega) hS (by decide) (by decide) hp)
                                      go_wp2_with (first
                                        | (go_at_call 88; (with_reducible refine HC3.out.mono ?_); rintro e v3 ⟨rfl, hRx, hKx⟩
                                           have HRc := Lib.hid hRx
                                           have HBc := Lib.hid (HBy.out.keep hKx hrb)
                                           have HLc := Lib.hid (HLy.out.keep1 hKx hrb7)
                                           have HPc := Lib.hid (HPy.out.keep hKx hPrb); have e4 := hRx.cell 4 rfl; have f4 := hRx.free 4 (by simp); have q0 := HPc.out.cell 0 rfl; have q1 := HPc.out.cell 1 rfl; have q2 := HPc.out.cell 2 rfl; have q3 := HPc.out.cell 3 rfl; have q4 := HPc.out.cell 4 rfl; have g4 := HPc.out.free 4 (by simp); have hob := HBc.out.out; have o0 := hob.cell 0 rfl; have o1 := hob.cell 1 rfl; have o2 := hob.cell 2 rfl; have o3 := hob.cell 3 rfl; have o4 := hob.cell 4 rfl; have p0 := hob.free 0 (by simp [V5]); have p1 := hob.free 1 (by simp [V5]); have p2 := hob.free 2 (by simp [V5]); have p3 := hob.free 3 (by simp [V5]); have p4 := hob.free 4 (by simp [V5]); clear hob
                                           clear hRx hKx))
                                      have HRz := Lib.hid (rr_bad HRc.out).1
                                      have HBz := Lib.hid (HBc.out.keep (rr_bad HRc.out).2 hrb)
                                      refine o_fin rfl HRz.out HBz.out hrb ?_
                                      intro wq hRq hKq hsame
                                      rw [HV.out, hn1]
                                      simp only
                                      rw [if_neg (by rw [← HTO.out, HHP.out]; simp)]
                                      exact rv_bad hD16 hRq (by omega) hKq
                                    · have HP4 := Lib.hid (show hasM S.data.toList (numTo S.data.toList (a + 1)) [40] = true by rw [← hto]; exact hp)
                                      have HNO2 := Lib.hid (show rowM S.data.toList f D (a' + 1) [41] .nil ≠ .out from fun h2 => HO.out (by rw [HV.out, hn1]; simp only; rw [if_pos HP4.out, ← hto, h2]; rfl))
                                      have HTO := Lib.hid hto
                                      clear hto
                                      have hp1 : a' + 1 ≤ S.size := hasM_in (t := ⟨#[40]⟩) (by decide) hp
                                      have HC3 := Lib.hid (wordT (t := ⟨#[40]⟩) HRy.out (by omega) hS (by decide) (by decide) hp)
                                      go_upto_region 49 with (first
                                        | (go_at_call 88; (with_reducible refine HC3.out.mono ?_); rintro e v3 ⟨rfl, hRx, hKx⟩
                                           have hRx : Rr v3 rb S (a' + 1) D N _ := hRx
                                           have HRc := Lib.hid hRx
                                           have HBc := Lib.hid (HBy.out.keep hKx hrb)
                                           have HLc := Lib.hid (HLy.out.keep1 hKx hrb7)
                                           have HPc := Lib.hid (HPy.out.keep hKx hPrb); have HC4 := Lib.hid (HROK.out rb (a' + 1) D N ⟨#[41]⟩ v3 hRx hp1 hD16 hN HLc.out hrb7 (by decide) (by decide) (no_end 41 (by decide) (by decide)) HNO2.out)
                                           clear hRx hKx)
                                        | (go_at_call 92; (with_reducible refine HC4.out.mono ?_); rintro e v4 hpost
                                           obtain ⟨l, m, c, bad, a2, D', n', rfl, hRx, hle2, hd1, hd2, hKx, hcase⟩ := rrp_any hpost HNO2.out hD16
                                           have HRd := Lib.hid hRx
                                           have HBd := Lib.hid (HBc.out.keep hKx hrb)
                                           have HLd := Lib.hid (HLc.out.keep1 hKx hrb7)
                                           have HPd := Lib.hid (HPc.out.keep hKx hPrb); have q4 := HPd.out.cell 4 rfl; have g4 := HPd.out.free 4 (by simp); have HCB := Lib.hid hcase; have HSZ4 := Lib.hid hKx.size; clear hcase
                                           clear hRx hKx))
                                      have HKz := Lib.hid (show Kept (N1 P) v4 (v4.setCell ⟨P, 4, none⟩ (.slice l m c)) from (Kept.refl (N1 P) v4).put (p := ⟨P, 4, none⟩) _ (fun _ => rfl))
                                      have HPz := Lib.hid (show Blk (v4.setCell ⟨P, 4, none⟩ (.slice l m c)) P [.int .i64 11, .int .i64 v, .int .u64 0, .string ⟨#[]⟩, .slice l m c] by simpa using Blk.set HPd.out (j := 4) (.slice l m c))
                                      have HRz := Lib.hid (HRd.out.keep HKz.out (by unfold N1; omega))
                                      have HBz := Lib.hid (show Ox w (v4.setCell ⟨P, 4, none⟩ (.slice l m c)) rb _ from ⟨HBd.out.out.keep HKz.out (by unfold N1; omega), HBd.out.kept.over HKz.out (by omega)⟩)
                                      have HZ4 := Lib.hid (show P < v3.heap.size ∧ v3.heap.size ≤ v4.heap.size from ⟨HPc.out.lt, HSZ4.out⟩)
                                      clear q4 g4
                                      generalize v4.setCell ⟨P, 4, none⟩ (.slice l m c) = z at *
                                      have q0 := HPz.out.cell 0 rfl; have q1 := HPz.out.cell 1 rfl; have q2 := HPz.out.cell 2 rfl; have q3 := HPz.out.cell 3 rfl; have q4 := HPz.out.cell 4 rfl; have g4 := HPz.out.free 4 (by simp)
                                      have hob := HBz.out.out; have o0 := hob.cell 0 rfl; have o1 := hob.cell 1 rfl; have o2 := hob.cell 2 rfl; have o3 := hob.cell 3 rfl; have o4 := hob.cell 4 rfl; have p0 := hob.free 0 (by simp [V5]); have p1 := hob.free 1 (by simp [V5]); have p2 := hob.free 2 (by simp [V5]); have p3 := hob.free 3 (by simp [V5]); have p4 := hob.free 4 (by simp [V5]); clear hob
                                      go_wp2_with fail
                                      refine o_fin rfl HRz.out HBz.out hrb ?_
                                      intro wq hRq hKq hsame
                                      rw [HV.out, hn1]
                                      simp only
                                      rw [if_pos HP4.out, ← HTO.out]
                                      exact rv_row 11 v HNO2.out HCB.out hRq hle2 hd1 hd2 hKq (fun x hx hlt => (hsame x (by have := HZ4.out.1; omega) (by have := HKz.out.size; omega)).trans (HKz.out.block x hlt (fun e => by unfold N1 at e; have := HZ4.out.1; omega))) (by have := HZ4.out.1; omega)
                                  · cases hp : hasM S.data.toList a' [40]
                                    · skip
                                      have HC3 := Lib.hid (wordF (t := ⟨#[40]⟩) HRy.out (by omega) hS (by decide) (by decide) hp)
                                      go_wp2_with (first
                                        | (go_at_call 88; (with_reducible refine HC3.out.mono ?_); rintro e v3 ⟨rfl, hRx, hKx⟩
                                           have HRc := Lib.hid hRx
                                           have HBc := Lib.hid (HBy.out.keep hKx hrb)
                                           have HLc := Lib.hid (HLy.out.keep1 hKx hrb7)
                                           have HPc := Lib.hid (HPy.out.keep hKx hPrb); have e4 := hRx.cell 4 rfl; have f4 := hRx.free 4 (by simp); have q0 := HPc.out.cell 0 rfl; have q1 := HPc.out.cell 1 rfl; have q2 := HPc.out.cell 2 rfl; have q3 := HPc.out.cell 3 rfl; have q4 := HPc.out.cell 4 rfl; have g4 := HPc.out.free 4 (by simp); have hob := HBc.out.out; have o0 := hob.cell 0 rfl; have o1 := hob.cell 1 rfl; have o2 := hob.cell 2 rfl; have o3 := hob.cell 3 rfl; have o4 := hob.cell 4 rfl; have p0 := hob.free 0 (by simp [V5]); have p1 := hob.free 1 (by simp [V5]); have p2 := hob.free 2 (by simp [V5]); have p3 := hob.free 3 (by simp [V5]); have p4 := hob.free 4 (by simp [V5]); clear hob
                                           clear hRx hKx))
                                      have HRz := Lib.hid (rr_bad HRc.out).1
                                      have HBz := Lib.hid (HBc.out.keep (rr_bad HRc.out).2 hrb)
                                      refine o_fin rfl HRz.out HBz.out hrb ?_
                                      intro wq hRq hKq hsame
                                      rw [HV.out, hn1]
                                      skip
                                      exact rv_bad hD16 hRq (by omega) hKq
                                    · skip
                                      have hp1 : a' + 1 ≤ S.size := hasM_in (t := ⟨#[40]⟩) (by decide) hp
                                      have HC3 := Lib.hid (wordT (t := ⟨#[40]⟩) HRy.out (by omega) hS (by decide) (by decide) hp)
                                      go_upto_region 49 with (first
                                        | (go_at_call 88; (with_reducible refine HC3.out.mono ?_); rintro e v3 ⟨rfl, hRx, hKx⟩
                                           have hRx : Rr v3 rb S (a' + 1) D N _ := hRx
                                           have HRc := Lib.hid hRx
                                           have HBc := Lib.hid (HBy.out.keep hKx hrb)
                                           have HLc := Lib.hid (HLy.out.keep1 hKx hrb7)
                                           have HPc := Lib.hid (HPy.out.keep hKx hPrb); have HC4 := Lib.hid (rrowsB (D := D) (t := ⟨#[41]⟩) hRx (Nat.le_succ_of_le hp1) hS (by decide) (by decide) (Nat.le_refl _) (by omega))
                                           clear hRx hKx)
                                        | (go_at_call 92; (with_reducible refine HC4.out.mono ?_); rintro e v4 hpost
                                           obtain ⟨⟨l, m, c, rfl⟩, a2, D', n', hRx, hle2, hd1, hd2, hKx⟩ := hpost
                                           have HRd := Lib.hid hRx
                                           have HBd := Lib.hid (HBc.out.keep hKx hrb)
                                           have HLd := Lib.hid (HLc.out.keep1 hKx hrb7)
                                           have HPd := Lib.hid (HPc.out.keep hKx hPrb); have q4 := HPd.out.cell 4 rfl; have g4 := HPd.out.free 4 (by simp); have HSZ4 := Lib.hid hKx.size
                                           clear hRx hKx))
                                      have HKz := Lib.hid (show Kept (N1 P) v4 (v4.setCell ⟨P, 4, none⟩ (.slice l m c)) from (Kept.refl (N1 P) v4).put (p := ⟨P, 4, none⟩) _ (fun _ => rfl))
                                      have HPz := Lib.hid (show Blk (v4.setCell ⟨P, 4, none⟩ (.slice l m c)) P [.int .i64 11, .int .i64 v, .int .u64 0, .string ⟨#[]⟩, .slice l m c] by simpa using Blk.set HPd.out (j := 4) (.slice l m c))
                                      have HRz := Lib.hid (HRd.out.keep HKz.out (by unfold N1; omega))
                                      have HBz := Lib.hid (show Ox w (v4.setCell ⟨P, 4, none⟩ (.slice l m c)) rb _ from ⟨HBd.out.out.keep HKz.out (by unfold N1; omega), HBd.out.kept.over HKz.out (by omega)⟩)
                                      have HZ4 := Lib.hid (show P < v3.heap.size ∧ v3.heap.size ≤ v4.heap.size from ⟨HPc.out.lt, HSZ4.out⟩)
                                      clear q4 g4
                                      generalize v4.setCell ⟨P, 4, none⟩ (.slice l m c) = z at *
                                      have q0 := HPz.out.cell 0 rfl; have q1 := HPz.out.cell 1 rfl; have q2 := HPz.out.cell 2 rfl; have q3 := HPz.out.cell 3 rfl; have q4 := HPz.out.cell 4 rfl; have g4 := HPz.out.free 4 (by simp)
                                      have hob := HBz.out.out; have o0 := hob.cell 0 rfl; have o1 := hob.cell 1 rfl; have o2 := hob.cell 2 rfl; have o3 := hob.cell 3 rfl; have o4 := hob.cell 4 rfl; have p0 := hob.free 0 (by simp [V5]); have p1 := hob.free 1 (by simp [V5]); have p2 := hob.free 2 (by simp [V5]); have p3 := hob.free 3 (by simp [V5]); have p4 := hob.free 4 (by simp [V5]); clear hob
                                      go_wp2_with fail
                                      refine o_fin rfl HRz.out HBz.out hrb ?_
                                      intro wq hRq hKq hsame
                                      rw [HV.out, hn1]
                                      exact ⟨⟨_, _, _, _, _, _, _, rfl⟩, .inl ⟨a2, D', n', hRq, hle2, hd1, hd2, hKq⟩⟩
                              · have hk := hkerr
                                have HV := Lib.hid (vm_err (f := f) h16 hk)
                                have HNO := Lib.hid (show ∀ v, numberM S.data.toList (a + 1) = some v → hasM S.data.toList (numTo S.data.toList (a + 1)) [34] = true → quotedM S.data.toList f (numTo S.data.toList (a + 1) + 1) [] ≠ .out from fun v h1 h h2 => HO.out (by rw [HV.out, h1]; simp only [if_pos h, h2]))
                                have hat : a + 1 ≤ S.size := hasM_end (t := ⟨#[33]⟩) ha hk
                                have HT := Lib.hid (wordT (t := ⟨#[33]⟩) HR11.out (by omega) hS (by decide) (by decide) hk)
                                go_wp2_with (first
                                  | (go_at_call 88; (with_reducible refine HT.out.mono ?_); rintro e v1 ⟨rfl, hRx, hKx⟩
                                     have hRx : Rr v1 rb S (a + 1) D N false := hRx
                                     have HRa := Lib.hid hRx
                                     have HBa := Lib.hid (HB11.out.keep hKx hrb)
                                     have HLa := Lib.hid (HL11.out.keep1 hKx hrb7)
                                     have HC := Lib.hid (rnumberN hRx hat hS HLa.out hrb7)
                                     clear hRx hKx)
                                  | (go_at_call 89; (with_reducible refine HC.out.mono ?_); rintro e v2 ⟨v, a', bad, rfl, hRx, hle, hKx, hcase⟩
                                     have HRb := Lib.hid hRx
                                     have HBb := Lib.hid (HBa.out.keep hKx hrb)
                                     have HLb := Lib.hid (HLa.out.keep1 hKx hrb7)
                                     have HCA := Lib.hid hcase; have HC2 := Lib.hid (rquotedN (f := f) hRx hle hS (rerrc hcase HNO.out)); clear hcase
                                     clear hRx hKx)
                                  | (go_at_call 91; (with_reducible refine HC2.out.mono ?_); rintro e v3 ⟨t, bad2, a2, rfl, hRx, hle2, hKx, hcase⟩
                                     have HRc := Lib.hid hRx
                                     have HBc := Lib.hid (HBb.out.keep hKx hrb)
                                     have HLc := Lib.hid (HLb.out.keep1 hKx hrb7)
                                     have hob := HBc.out.out; have o0 := hob.cell 0 rfl; have o1 := hob.cell 1 rfl; have o2 := hob.cell 2 rfl; have o3 := hob.cell 3 rfl; have o4 := hob.cell 4 rfl; have p0 := hob.free 0 (by simp [V5]); have p1 := hob.free 1 (by simp [V5]); have p2 := hob.free 2 (by simp [V5]); have p3 := hob.free 3 (by simp [V5]); have p4 := hob.free 4 (by simp [V5]); clear hob; have HCB := Lib.hid hcase; clear hcase
                                     clear hRx hKx))
                                refine o_fin rfl HRc.out HBc.out hrb ?_
                                intro wq hRq hKq hsame
                                rw [HV.out]
                                rcases HCA.out with ⟨rfl, rfl, hn1⟩ | ⟨rfl, hn1⟩
                                · rw [hn1]
                                  rcases HCB.out with ⟨rfl, _, hle3, hn, hn2⟩ | ⟨rfl, hn | hn | ⟨hn, hn2⟩⟩
                                  · simp only [if_pos hn, hn2]; exact rv_ok hN hRq hle3 hKq
                                  · cases hn
                                  · simp only [if_neg (show ¬ hasM S.data.toList (numTo S.data.toList (a + 1)) [34] = true by rw [hn]; simp)]; exact rv_bad hD16 hRq hle2 hKq
                                  · simp only [if_pos hn, hn2]; exact rv_bad hD16 hRq hle2 hKq
                                · rw [hn1]
                                  rcases HCB.out with ⟨rfl, hn, _⟩ | ⟨rfl, _⟩
                                  · cases hn
                                  · exact rv_bad hD16 hRq hle2 hKq
                            · have hk := hkpair
                              have HV := Lib.hid (vm_pair (f := f) h16 hk)
                              rw [← HDD.out] at HV
                              have HNO := Lib.hid (show rowM S.data.toList f D (a + 1) [41] .nil ≠ .out from fun h2 => HO.out (by rw [HV.out, h2]; rfl))
                              have hat : a + 1 ≤ S.size := hasM_end (t := ⟨#[40]⟩) ha hk
                              have HT := Lib.hid (wordT (t := ⟨#[40]⟩) HR10.out (by omega) hS (by decide) (by decide) hk)
                              go_wp2_with (first
                                | (go_at_call 88; (with_reducible refine HT.out.mono ?_); rintro e v1 ⟨rfl, hRx, hKx⟩
                                   have hRx : Rr v1 rb S (a + 1) D N false := hRx
                                   have HRa := Lib.hid hRx
                                   have HBa := Lib.hid (HB10.out.keep hKx hrb)
                                   have HLa := Lib.hid (HL10.out.keep1 hKx hrb7)
                                   have HSZ9 := Lib.hid (show w.heap.size + 1 ≤ v1.heap.size from HBa.out.out.lt); have HC := Lib.hid (HROK.out rb (a + 1) D N ⟨#[41]⟩ v1 hRx hat hD16 hN HLa.out hrb7 (by decide) (by decide) (no_end 41 (by decide) (by decide)) HNO.out)
                                   clear hRx hKx)
                                | (go_at_call 92; (with_reducible refine HC.out.mono ?_); rintro e v2 hpost
                                   obtain ⟨l, m, c, bad, a', D', n', rfl, hRx, hle, hd1, hd2, hKx, hcase⟩ := rrp_any hpost HNO.out hD16
                                   have HRb := Lib.hid hRx
                                   have HBb := Lib.hid (HBa.out.keep hKx hrb)
                                   have HLb := Lib.hid (HLa.out.keep1 hKx hrb7)
                                   have hob := HBb.out.out; have o0 := hob.cell 0 rfl; have o1 := hob.cell 1 rfl; have o2 := hob.cell 2 rfl; have o3 := hob.cell 3 rfl; have o4 := hob.cell 4 rfl; have p0 := hob.free 0 (by simp [V5]); have p1 := hob.free 1 (by simp [V5]); have p2 := hob.free 2 (by simp [V5]); have p3 := hob.free 3 (by simp [V5]); have p4 := hob.free 4 (by simp [V5]); clear hob; have HCA := Lib.hid hcase; clear hcase
                                   clear hRx hKx))
                              refine o_fin rfl HRb.out HBb.out hrb ?_
                              intro wq hRq hKq hsame
                              rw [HV.out]
                              exact rv_row 9 0 HNO.out HCA.out hRq hle hd1 hd2 hKq (fun x hx hlt => hsame x (by have := HSZ9.out; omega) hlt) (by have := HSZ9.out; omega)
                          · have hk := hklist
                            have HV := Lib.hid (vm_list (f := f) h16 hk)
                            rw [← HDD.out] at HV
                            have HNO := Lib.hid (show rowM S.data.toList f D (a + 1) [93] .nil ≠ .out from fun h2 => HO.out (by rw [HV.out, h2]; rfl))
                            have hat : a + 1 ≤ S.size := hasM_end (t := ⟨#[91]⟩) ha hk
                            have HT := Lib.hid (wordT (t := ⟨#[91]⟩) HR9.out (by omega) hS (by decide) (by decide) hk)
                            go_wp2_with (first
                              | (go_at_call 88; (with_reducible refine HT.out.mono ?_); rintro e v1 ⟨rfl, hRx, hKx⟩
                                 have hRx : Rr v1 rb S (a + 1) D N false := hRx
                                 have HRa := Lib.hid hRx
                                 have HBa := Lib.hid (HB9.out.keep hKx hrb)
                                 have HLa := Lib.hid (HL9.out.keep1 hKx hrb7)
                                 have HSZ9 := Lib.hid (show w.heap.size + 1 ≤ v1.heap.size from HBa.out.out.lt); have HC := Lib.hid (HROK.out rb (a + 1) D N ⟨#[93]⟩ v1 hRx hat hD16 hN HLa.out hrb7 (by decide) (by decide) (no_end 93 (by decide) (by decide)) HNO.out)
                                 clear hRx hKx)
                              | (go_at_call 92; (with_reducible refine HC.out.mono ?_); rintro e v2 hpost
                                 obtain ⟨l, m, c, bad, a', D', n', rfl, hRx, hle, hd1, hd2, hKx, hcase⟩ := rrp_any hpost HNO.out hD16
                                 have HRb := Lib.hid hRx
                                 have HBb := Lib.hid (HBa.out.keep hKx hrb)
                                 have HLb := Lib.hid (HLa.out.keep1 hKx hrb7)
                                 have hob := HBb.out.out; have o0 := hob.cell 0 rfl; have o1 := hob.cell 1 rfl; have o2 := hob.cell 2 rfl; have o3 := hob.cell 3 rfl; have o4 := hob.cell 4 rfl; have p0 := hob.free 0 (by simp [V5]); have p1 := hob.free 1 (by simp [V5]); have p2 := hob.free 2 (by simp [V5]); have p3 := hob.free 3 (by simp [V5]); have p4 := hob.free 4 (by simp [V5]); clear hob; have HCA := Lib.hid hcase; clear hcase
                                 clear hRx hKx))
                            refine o_fin rfl HRb.out HBb.out hrb ?_
                            intro wq hRq hKq hsame
                            rw [HV.out]
                            exact rv_row 8 0 HNO.out HCA.out hRq hle hd1 hd2 hKq (fun x hx hlt => hsame x (by have := HSZ9.out; omega) hlt) (by have := HSZ9.out; omega)
                        · have hk := hkbytes
                          have HV := Lib.hid (vm_bytes (f := f) h16 hk)
                          obtain ⟨i0, hi, hy0, hy1, hy2⟩ := info_parts byteInfo
                          have hat : a + 1 ≤ S.size := hasM_end (t := ⟨#[37]⟩) ha hk
                          have HT := Lib.hid (wordT (t := ⟨#[37]⟩) HR8.out (by omega) hS (by decide) (by decide) hk)
                          generalize hW : whileM S.data.toList (a + 1) hexD = W at *
                          obtain ⟨E, hE⟩ : ∃ E, E = a + 1 + W := ⟨_, rfl⟩
                          have HE := Lib.hid hE
                          have hEl : E ≤ S.size := by rw [hE, ← hW, Lib.size_eq]; exact whileM_le _ _ _ (by rw [← Lib.size_eq]; exact hat)
                          generalize hrs : unpairM ((S.data.toList.drop (a + 1)).take W) = rs at *
                          have HRS := Lib.hid hrs
                          have HWW := Lib.hid hW
                          clear hE hW hrs
                          obtain ⟨o0, ho0⟩ : ∃ o0, o0 = rhexAt S.data.toList (a + 1) := ⟨_, rfl⟩
                          have HO0 := Lib.hid ho0
                          clear ho0
                          go_upto_region 32 with (first
                            | (go_at_call 88; (with_reducible refine HT.out.mono ?_); rintro e v1 ⟨rfl, hRx, hKx⟩
                               have hRx : Rr v1 rb S (a + 1) D N false := hRx
                               have HRa := Lib.hid hRx
                               have HBa := Lib.hid (HB8.out.keep hKx hrb)
                               have HLa := Lib.hid (HL8.out.keep1 hKx hrb7)
                               have HC := Lib.hid (rhexG hRx (by omega))
                               clear hRx hKx)
                            | (go_at_call 90; (with_reducible refine HC.out.mono ?_); rintro e v2 ⟨rfl, hRx, hKx⟩; have HRb := Lib.hid hRx; have HBb := Lib.hid (HBa.out.keep hKx hrb); have HLb := Lib.hid (HLa.out.keep1 hKx hrb7); clear hRx hKx))
                          have H0 := Lib.hid (show ∃ m, PR rb S D N w E rs m (.slice none 0 0) (.int .u8 (hbv (rhexAt S.data.toList (a + 1)))) (.bool (rhexAt S.data.toList (a + 1)).isSome) v2 from ⟨W, a + 1, [], none, 0, 0, rfl, rfl, rfl, rfl, by omega, hat, Row.nil _ _ _, HBb.out, HRb.out, HWW.out, HE.out.symm, by rw [HRS.out]; cases rs <;> rfl⟩)
                          clear HRb HBb HLb HC HBa HLa HRa
                          go_loopw [8, 9, 10] (fun t8 t9 t10 wr => ∃ m, PR rb S D N w E rs m t8 t9 t10 wr) (fun t8 t9 t10 wr => least (fun m => PR rb S D N w E rs m t8 t9 t10 wr))
                          case atStart => exact H0.out
                          case round =>
                            obtain ⟨m9, hm9, hle9⟩ : ∃ m, PR rb S D N w E rs m _ _ _ wr ∧ m ≤ least (fun m => PR rb S D N w E rs m _ _ _ wr) := ⟨_, least_spec hrel, Nat.le_refl _⟩
                            have HLE := Lib.hid hle9
                            obtain ⟨j, o, l, n, cap, rfl, rfl, rfl, hol, hnj, hj, hrow, hox, hRj, hmj, hjE, hun⟩ := hm9
                            clear hrel hle9 H0
                            have HROW := Lib.hid hrow
                            have HOX := Lib.hid hox
                            have HOL := Lib.hid hol
                            have HUN := Lib.hid hun
                            have HJE := Lib.hid (And.intro hmj hjE)
                            clear hrow hox hol hun hmj hjE
                            cases hx9 : rhexAt S.data.toList j with
                            | some b =>
                              rw [hx9] at hRj
                              replace hRj : Rr wr rb S (j + 2) D N false := hRj
                              have HRj := Lib.hid hRj
                              have hb9 : hbv (some b) = ((b.toNat : Nat) : Int) := rfl
                              have hs9 : (some b).isSome = true := rfl
                              obtain ⟨bn, hbn⟩ : ∃ bn, bn = b.toNat := ⟨_, rfl⟩
                              rw [hs9, hb9, ← hbn]
                              have HBN := Lib.hid hbn
                              have HX9 := Lib.hid hx9
                              have hj2 : j + 2 ≤ S.size := by
                                unfold rhexAt at hx9
                                split at hx9
                                · rename_i h; rw [← Lib.size_eq] at h; exact h
                                · cases hx9
                              have HR9 := fun o => Lib.hid (HROW.out.alloc o)
                              have HLS := Lib.hid (show w.heap.size + 1 ≤ wr.heap.size from HOX.out.out.lt)
                              have HS9 := Lib.hid (Src.oneAt (P := Tryd.prog) (w := wr) (tx := 53) Tryd.underlying53 (.int .u8 (bn : Nat)) 5 rfl (g := wr.heap.size) rfl)
                              have hrbB : rb < w.heap.size + 1 := by omega
                              clear hRj hx9 hb9 hs9 hbn
                              go_wp2_with (first
                                | (at_builtin; refine wpList_append_row rfl _ _ 53 53 rfl 5 i0 (.int .u8 0) 1 1 Tryd.underlying53 hi hy0 hy1 hy2 rfl rfl (HR9 _).out 1 _ HS9.out (by unfold maxLen; omega) (by omega) (by have := HLS.out; simp; omega) ?_; intro a4 c4 w4 hrow hgr hbk4; have HG9 := Lib.hid hrow; have HRG := Lib.hid (rr_grown HRj.out HROW.out hrbB ((Below.refl _ _).alloc (Nat.le_refl _) _) hgr).1; have HOG := Lib.hid (ox_grown HOX.out HROW.out ((Below.refl _ _).alloc (Nat.le_refl _) _) hgr); have HC5 := Lib.hid (rhexG HRG.out (by omega)); clear hrow hgr hbk4)
                                | (go_at_call 90; (with_reducible refine HC5.out.mono ?_); rintro e w5 ⟨rfl, hRx, hKx⟩; have HR5 := Lib.hid hRx; have HK5 := Lib.hid hKx; clear hRx hKx))
                              have hfin : PR rb S D N w E rs (m9 - 2) (.slice a4 (n + 1) c4) (.int .u8 (hbv (rhexAt S.data.toList (j + 2)))) (.bool (rhexAt S.data.toList (j + 2)).isSome) w5 := by
                                have hm2 : ¬ m9 < 2 := fun h => by have h1 := hex_few (L := S.data.toList) (i := j) (by rw [HJE.out.1]; exact h); rw [HX9.out] at h1; cases h1
                                obtain ⟨W9, hW9⟩ : ∃ W9, m9 = W9 + 2 := ⟨m9 - 2, by omega⟩
                                obtain ⟨b', hb1, hb2, hb3, hb4, _⟩ := hex_two (L := S.data.toList) (i := j) (W := W9) (by rw [HJE.out.1, hW9])
                                rw [HX9.out] at hb1
                                cases hb1
                                refine ⟨j + 2, o ++ [b], a4, n + 1, c4, rfl, rfl, rfl, by rw [List.length_append, HOL.out]; rfl, by omega, hj2, ?_, HOG.out.keep HK5.out hrb, HR5.out, by rw [hb2]; omega, by have := HJE.out.2; omega, ?_⟩
                                · rw [B8_snoc, ← HBN.out]
                                  exact HG9.out.keep1 HK5.out hrbB
                                · have h := HUN.out
                                  rw [hW9, hb4] at h
                                  rw [show m9 - 2 = W9 by omega, ← h]
                                  cases unpairM ((S.data.toList.drop (j + 2)).take W9) <;> simp
                              have hm2 : 2 ≤ m9 := by
                                rcases Nat.lt_or_ge m9 2 with h | h
                                · have h1 := hex_few (L := S.data.toList) (i := j) (by rw [HJE.out.1]; exact h); rw [HX9.out] at h1; cases h1
                                · exact h
                              exact ⟨⟨m9 - 2, hfin⟩, Nat.lt_of_le_of_lt (least_le hfin) (by have := HLE.out; rw [HX9.out] at this; simp only [Option.isSome, hbv, ← HBN.out] at this; omega)⟩
                            | none =>
                              rw [hx9] at hRj
                              replace hRj : Rr wr rb S j D N false := hRj
                              have HRj := Lib.hid hRj
                              have HX9 := Lib.hid hx9
                              have hb9 : hbv none = (0 : Int) := rfl
                              have hs9 : (none : Option UInt8).isSome = false := rfl
                              rw [hs9, hb9]
                              have hcv := conv_row HROW.out
                              have hob := HOX.out.out; have o0 := hob.cell 0 rfl; have o1 := hob.cell 1 rfl; have o2 := hob.cell 2 rfl; have o3 := hob.cell 3 rfl; have o4 := hob.cell 4 rfl; have p0 := hob.free 0 (by simp [V5]); have p1 := hob.free 1 (by simp [V5]); have p2 := hob.free 2 (by simp [V5]); have p3 := hob.free 3 (by simp [V5]); have p4 := hob.free 4 (by simp [V5])
                              clear hRj hx9 hb9 hs9 hob
                              go_wp2_with fail
                              refine o_fin rfl HRj.out HOX.out hrb ?_
                              intro wq hRq hKq hsame
                              rw [HV.out]
                              have hm2 : m9 = 0 ∨ m9 = 1 := by
                                rcases Nat.lt_or_ge m9 2 with h | h
                                · omega
                                · obtain ⟨b', hb1, _⟩ := hex_two (L := S.data.toList) (i := j) (W := m9 - 2) (by rw [HJE.out.1]; omega)
                                  rw [HX9.out] at hb1; cases hb1
                              rcases hm2 with rfl | rfl
                              · have h := HUN.out
                                have hu : rs = some o := by rw [← h]; simp [unpairM]
                                rw [hu]
                                have hje := HJE.out.2
                                rw [show a + 1 + W = j by have := HE.out; omega]
                                exact rv_ok hN hRq hj hKq
                              · obtain ⟨h1, h2, _⟩ := hexrun_lt (L := S.data.toList) (i := j) (by rw [HJE.out.1]; omega)
                                have h := HUN.out
                                have hu : rs = none := by
                                  rw [← h, drop_at h1]
                                  rfl
                                rw [hu]
                                exact ⟨⟨_, _, _, _, _, _, _, rfl⟩, .inr ⟨j, N, hRq, by rw [Lib.size_eq]; exact h1, h2, hKq⟩⟩
                      · have hk := hkname
                        have HV := Lib.hid (vm_name (f := f) h16 hk)
                        have HNO := Lib.hid (show hasM S.data.toList (a + 1) [34] = true → quotedM S.data.toList f (a + 1 + 1) [] ≠ .out from fun h h2 => HO.out (by rw [HV.out, if_pos h, show a + 2 = a + 1 + 1 from rfl, h2]))
                        have hat : a + 1 ≤ S.size := hasM_end (t := ⟨#[64]⟩) ha hk
                        have HT := Lib.hid (wordT (t := ⟨#[64]⟩) HR7.out (by omega) hS (by decide) (by decide) hk)
                        go_wp2_with (first
                          | (go_at_call 88; (with_reducible refine HT.out.mono ?_); rintro e v1 ⟨rfl, hRx, hKx⟩
                             have hRx : Rr v1 rb S (a + 1) D N false := hRx
                             have HRa := Lib.hid hRx
                             have HBa := Lib.hid (HB7.out.keep hKx hrb)
                             have HLa := Lib.hid (HL7.out.keep1 hKx hrb7)
                             have HC := Lib.hid (rquotedN (f := f) hRx hat hS (fun e h => HNO.out h))
                             clear hRx hKx)
                          | (go_at_call 91; (with_reducible refine HC.out.mono ?_); rintro e v2 ⟨t, bad, a', rfl, hRx, hle, hKx, hcase⟩
                             have HRb := Lib.hid hRx
                             have HBb := Lib.hid (HBa.out.keep hKx hrb)
                             have HLb := Lib.hid (HLa.out.keep1 hKx hrb7)
                             have hob := HBb.out.out; have o0 := hob.cell 0 rfl; have o1 := hob.cell 1 rfl; have o2 := hob.cell 2 rfl; have o3 := hob.cell 3 rfl; have o4 := hob.cell 4 rfl; have p0 := hob.free 0 (by simp [V5]); have p1 := hob.free 1 (by simp [V5]); have p2 := hob.free 2 (by simp [V5]); have p3 := hob.free 3 (by simp [V5]); have p4 := hob.free 4 (by simp [V5]); clear hob; have HCA := Lib.hid hcase; clear hcase
                             clear hRx hKx))
                        refine o_fin rfl HRb.out HBb.out hrb ?_
                        intro wq hRq hKq hsame
                        rw [HV.out]
                        rcases HCA.out with ⟨rfl, _, hle2, hn, hn2⟩ | ⟨rfl, hn | hn | ⟨hn, hn2⟩⟩
                        · rw [if_pos hn, show a + 2 = a + 1 + 1 from rfl, hn2]; exact rv_ok hN hRq hle2 hKq
                        · cases hn
                        · rw [if_neg (by rw [hn]; simp)]; exact rv_bad hD16 hRq hle hKq
                        · rw [if_pos hn, show a + 2 = a + 1 + 1 from rfl, hn2]; exact rv_bad hD16 hRq hle hKq
                  · have hk := hkfloat
                    have HV := Lib.hid (vm_float (f := f) h16 hk hkfalse)
                    have hat : a + 1 ≤ S.size := hasM_end (t := ⟨#[102]⟩) ha hk
                    have HT := Lib.hid (wordT (t := ⟨#[102]⟩) HR6.out (by omega) hS (by decide) (by decide) hk)
                    generalize hW : whileM S.data.toList (a + 1) hexD = W at *
                    have HWW := Lib.hid hW
                    clear hW
                    go_upto_region 18 with (first
                      | (go_at_call 88; (with_reducible refine HT.out.mono ?_); rintro e v1 ⟨rfl, hRx, hKx⟩
                         have hRx : Rr v1 rb S (a + 1) D N false := hRx
                         have HRa := Lib.hid hRx
                         have HBa := Lib.hid (HB6.out.keep hKx hrb)
                         have HLa := Lib.hid (HL6.out.keep1 hKx hrb7)
                         skip
                         clear hRx hKx))
                    have hKal : Kept (N1 rb) v1 (v1.alloc (.cells #[.int .i64 3, .int .i64 0, .int .u64 0, .string ⟨#[]⟩, .slice none 0 0] 25)) := (Kept.refl _ _).alloc _
                    have HRy := Lib.hid (Blk.alloc HRa.out (.cells #[.int .i64 3, .int .i64 0, .int .u64 0, .string ⟨#[]⟩, .slice none 0 0] 25))
                    have HBy := Lib.hid (HBa.out.keep hKal hrb)
                    have HPy := Lib.hid (Blk.new v1 #[.int .i64 3, .int .i64 0, .int .u64 0, .string ⟨#[]⟩, .slice none 0 0] 25)
                    have hPw : w.heap.size < v1.heap.size := HBa.out.out.lt
                    generalize v1.alloc (.cells #[.int .i64 3, .int .i64 0, .int .u64 0, .string ⟨#[]⟩, .slice none 0 0] 25) = y0 at *
                    generalize v1.heap.size = P at *
                    have hPrb : ¬ N1 rb P := by unfold N1; omega
                    clear hKal
                    go_wp2_with fail
                    have H0 := Lib.hid (show ∃ m, FR rb S D N w P (a + 1) W m (.int .i64 0) y0 from ⟨8, 0, 0, rfl, rfl, by omega, HBy.out, HPy.out, .inl ⟨rfl, by omega, HRy.out⟩⟩)
                    go_loopw [5] (fun t5 wr => ∃ m, FR rb S D N w P (a + 1) W m t5 wr) (fun t5 wr => least (fun m => FR rb S D N w P (a + 1) W m t5 wr))
                    case atStart => exact H0.out
                    case round =>
                      obtain ⟨m9, hm9, hle9⟩ : ∃ m, FR rb S D N w P (a + 1) W m _ wr ∧ m ≤ least (fun m => FR rb S D N w P (a + 1) W m _ wr) := ⟨_, least_spec hrel, Nat.le_refl _⟩
                      have HLE := Lib.hid hle9
                      obtain ⟨k, bt, rfl, hm9, hk8, hox, hpb, hmode⟩ := hm9
                      clear hrel hle9 H0
                      have HOX := Lib.hid hox
                      have HPB := Lib.hid hpb
                      have HM9 := Lib.hid hm9
                      have HPN := Lib.hid (show w.heap.size ≠ P ∧ rb ≠ P ∧ rb ≠ w.heap.size from ⟨by omega, fun e => hPrb e.symm, by omega⟩)
                      clear hox hpb hm9
                      rcases hmode with ⟨hbt, hkW, hRk⟩ | ⟨hW16, q, hq9, hRk⟩
                      · have c4 := hRk.cell 4 rfl
                        have HRK := Lib.hid hRk
                        clear hRk
                        by_cases hlt : k < 8
                        · have hlti : (k : Int) < 8 := by omega
                          obtain ⟨q, hqq⟩ : ∃ q, q = a + 1 + 2 * k := ⟨_, rfl⟩
                          rw [← hqq] at HRK
                          have hqs : q ≤ S.size := by rw [hqq]; have h := whileM_le S.data.toList (a + 1) hexD (by rw [← Lib.size_eq]; exact hat); rw [HWW.out, ← Lib.size_eq] at h; omega
                          have HQQ := Lib.hid hqq
                          have HBT := Lib.hid hbt
                          have HKW := Lib.hid hkW
                          clear hqq hbt hkW
                          cases hx9 : rhexAt S.data.toList q with
                          | none =>
                            have HC := Lib.hid (rhex0 HRK.out (by omega) hx9)
                            have HX9 := Lib.hid hx9
                            clear hx9
                            go_wp2_with (first
                              | (go_at_call 90; (with_reducible refine HC.out.mono ?_); rintro e w2 ⟨rfl, hRx, hKx⟩; have HR2 := Lib.hid hRx; have HK2 := Lib.hid hKx; have HP2 := Lib.hid (HPB.out.keep hKx hPrb); have e4 := hRx.cell 4 rfl; have f4 := hRx.free 4 (by simp); have q2 := HP2.out.cell 2 rfl; have g2 := HP2.out.free 2 (by simp); clear hRx hKx))
                            have HR3 := Lib.hid (rr_bad HR2.out)
                            have hfin : FR rb S D N w P (a + 1) W (8 - (k + 1)) (.int .i64 ((k : Int) + 1)) ((w2.setCell ⟨rb, 4, none⟩ (.bool true)).setCell ⟨P, 2, none⟩ (.int .u64 (bits BinOp.or IntKind.u64 (IntKind.u64.wrap (bt * 256)) 0))) := by
                              have hox3 := (HOX.out.keep HK2.out hrb).keep HR3.out.2 hrb
                              have hp3 := HP2.out.keep HR3.out.2 hPrb
                              refine ⟨k + 1, _, by go_num, rfl, by omega, ⟨hox3.out.other (p := ⟨P, 2, none⟩) _ (fun e => HPN.out.1 e.symm), hox3.kept.put (p := ⟨P, 2, none⟩) _ (fun h => absurd h (by have := HPy.out.lt; show ¬ P < _; omega))⟩, by simpa using hp3.set (j := 2) (.int .u64 (bits BinOp.or IntKind.u64 (IntKind.u64.wrap (bt * 256)) 0)), .inr ⟨?_, q, hqs, Blk.other HR3.out.1 (p := ⟨P, 2, none⟩) _ (fun e => HPN.out.2.1 e.symm)⟩⟩
                              have h := hex_stop HWW.out (by rw [← HQQ.out]; exact HX9.out)
                              omega
                            exact ⟨⟨8 - (k + 1), hfin⟩, Nat.lt_of_le_of_lt (least_le hfin) (by have := HLE.out; have := HM9.out; omega)⟩
                          | some b =>
                            have HC := Lib.hid (rhexS HRK.out (by omega) hx9)
                            have HX9 := Lib.hid hx9
                            obtain ⟨bn, hbn⟩ : ∃ bn, bn = b.toNat := ⟨_, rfl⟩
                            rw [← hbn] at HC
                            have hb8 : bn < 256 := by rw [hbn]; exact b.toNat_lt
                            have HBN := Lib.hid hbn
                            clear hx9 hbn
                            go_wp2_with (first
                              | (go_at_call 90; (with_reducible refine HC.out.mono ?_); rintro e w2 ⟨rfl, hRx, hKx⟩; have HR2 := Lib.hid hRx; have HK2 := Lib.hid hKx; have HP2 := Lib.hid (HPB.out.keep hKx hPrb); have e4 := hRx.cell 4 rfl; have f4 := hRx.free 4 (by simp); have q2 := HP2.out.cell 2 rfl; have g2 := HP2.out.free 2 (by simp); clear hRx hKx))
                            have HR3 := Lib.hid (rr_badF HR2.out)
                            have hfin : FR rb S D N w P (a + 1) W (8 - (k + 1)) (.int .i64 ((k : Int) + 1)) ((w2.setCell ⟨rb, 4, none⟩ (.bool false)).setCell ⟨P, 2, none⟩ (.int .u64 (bits BinOp.or IntKind.u64 (IntKind.u64.wrap (bt * 256)) (bn : Nat)))) := by
                              have hox3 := (HOX.out.keep HK2.out hrb).keep HR3.out.2 hrb
                              have hp3 := HP2.out.keep HR3.out.2 hPrb
                              obtain ⟨h1, h2, h3⟩ := hex_next HWW.out HKW.out (by rw [← HQQ.out]; exact HX9.out)
                              refine ⟨k + 1, _, by go_num, rfl, by omega, ⟨hox3.out.other (p := ⟨P, 2, none⟩) _ (fun e => HPN.out.1 e.symm), hox3.kept.put (p := ⟨P, 2, none⟩) _ (fun h => absurd h (by have := HPy.out.lt; show ¬ P < _; omega))⟩, by simpa using hp3.set (j := 2) (.int .u64 (bits BinOp.or IntKind.u64 (IntKind.u64.wrap (bt * 256)) (bn : Nat))), .inl ⟨?_, h2, ?_⟩⟩
                              · rw [HBT.out, h1, HBN.out]
                                exact bit_next (h3 hlt) b.toNat_lt
                              · rw [show a + 1 + 2 * (k + 1) = q + 2 by have := HQQ.out; omega]
                                exact Blk.other HR3.out.1 (p := ⟨P, 2, none⟩) _ (fun e => HPN.out.2.1 e.symm)
                            exact ⟨⟨8 - (k + 1), hfin⟩, Nat.lt_of_le_of_lt (least_le hfin) (by have := HLE.out; have := HM9.out; omega)⟩
                        · have hlti : ¬ (k : Int) < 8 := by omega
                          obtain rfl : k = 8 := by omega
                          have HBT := Lib.hid hbt
                          clear hbt
                          have hP := HPB.out; have q0 := hP.cell 0 rfl; have q1 := hP.cell 1 rfl; have q2 := hP.cell 2 rfl; have q3 := hP.cell 3 rfl; have q4 := hP.cell 4 rfl
                          have hob := HOX.out.out; have o0 := hob.cell 0 rfl; have o1 := hob.cell 1 rfl; have o2 := hob.cell 2 rfl; have o3 := hob.cell 3 rfl; have o4 := hob.cell 4 rfl; have p0 := hob.free 0 (by simp [V5]); have p1 := hob.free 1 (by simp [V5]); have p2 := hob.free 2 (by simp [V5]); have p3 := hob.free 3 (by simp [V5]); have p4 := hob.free 4 (by simp [V5])
                          clear hob hP
                          go_wp2_with fail
                          refine o_fin rfl HRK.out HOX.out hrb ?_
                          intro wq hRq hKq hsame
                          rw [HV.out]
                          by_cases hW : W = 16
                          · rw [if_pos hW, ← HBT.out]
                            refine rv_ok hN hRq ?_ hKq
                            have h := whileM_le S.data.toList (a + 1) hexD (by rw [← Lib.size_eq]; exact hat)
                            rw [HWW.out, ← Lib.size_eq] at h
                            omega
                          · rw [if_neg hW]
                            have h1 := while_skip (L := S.data.toList) (p := a + 1) (n := 16) (by rw [HWW.out]; omega)
                            rw [HWW.out] at h1
                            obtain ⟨h2, h3, _⟩ := hexrun_lt (L := S.data.toList) (i := a + 1 + 16) (by rw [h1]; omega)
                            exact ⟨⟨_, _, _, _, _, _, _, rfl⟩, .inr ⟨a + 1 + 16, N, hRq, by rw [Lib.size_eq]; exact h2, h3, hKq⟩⟩
                      · have c4 := hRk.cell 4 rfl
                        have HRK := Lib.hid hRk
                        clear hRk
                        by_cases hlt : k < 8
                        · have hlti : (k : Int) < 8 := by omega
                          have hP := HPB.out; have q0 := hP.cell 0 rfl; have q1 := hP.cell 1 rfl; have q2 := hP.cell 2 rfl; have q3 := hP.cell 3 rfl; have q4 := hP.cell 4 rfl
                          have hob := HOX.out.out; have o0 := hob.cell 0 rfl; have o1 := hob.cell 1 rfl; have o2 := hob.cell 2 rfl; have o3 := hob.cell 3 rfl; have o4 := hob.cell 4 rfl; have p0 := hob.free 0 (by simp [V5]); have p1 := hob.free 1 (by simp [V5]); have p2 := hob.free 2 (by simp [V5]); have p3 := hob.free 3 (by simp [V5]); have p4 := hob.free 4 (by simp [V5])
                          clear hob hP
                          go_wp2_with fail
                          refine o_fin rfl HRK.out HOX.out hrb ?_
                          intro wq hRq hKq hsame
                          rw [HV.out]
                          rw [if_neg (by omega)]
                          exact rv_bad hD16 hRq (by omega) hKq
                        · have hlti : ¬ (k : Int) < 8 := by omega
                          have hP := HPB.out; have q0 := hP.cell 0 rfl; have q1 := hP.cell 1 rfl; have q2 := hP.cell 2 rfl; have q3 := hP.cell 3 rfl; have q4 := hP.cell 4 rfl
                          have hob := HOX.out.out; have o0 := hob.cell 0 rfl; have o1 := hob.cell 1 rfl; have o2 := hob.cell 2 rfl; have o3 := hob.cell 3 rfl; have o4 := hob.cell 4 rfl; have p0 := hob.free 0 (by simp [V5]); have p1 := hob.free 1 (by simp [V5]); have p2 := hob.free 2 (by simp [V5]); have p3 := hob.free 3 (by simp [V5]); have p4 := hob.free 4 (by simp [V5])
                          clear hob hP
                          go_wp2_with fail
                          refine o_fin rfl HRK.out HOX.out hrb ?_
                          intro wq hRq hKq hsame
                          rw [HV.out]
                          rw [if_neg (by omega)]
                          exact rv_bad hD16 hRq (by omega) hKq
                · have hk := hkkey
                  have HV := Lib.hid (vm_key (f := f) h16 hk)
                  have hat : a + 1 ≤ S.size := hasM_end (t := ⟨#[35]⟩) ha hk
                  have HT := Lib.hid (wordT (t := ⟨#[35]⟩) HR5.out (by omega) hS (by decide) (by decide) hk)
                  go_wp2_with (first
                    | (go_at_call 88; (with_reducible refine HT.out.mono ?_); rintro e v1 ⟨rfl, hRx, hKx⟩
                       have hRx : Rr v1 rb S (a + 1) D N false := hRx
                       have HRa := Lib.hid hRx
                       have HBa := Lib.hid (HB5.out.keep hKx hrb)
                       have HLa := Lib.hid (HL5.out.keep1 hKx hrb7)
                       have HC := Lib.hid (rnumberN hRx hat hS HLa.out hrb7)
                       clear hRx hKx)
                    | (go_at_call 89; (with_reducible refine HC.out.mono ?_); rintro e v2 ⟨v, a', bad, rfl, hRx, hle, hKx, hcase⟩
                       have HRb := Lib.hid hRx
                       have HBb := Lib.hid (HBa.out.keep hKx hrb)
                       have HLb := Lib.hid (HLa.out.keep1 hKx hrb7)
                       have hob := HBb.out.out; have o0 := hob.cell 0 rfl; have o1 := hob.cell 1 rfl; have o2 := hob.cell 2 rfl; have o3 := hob.cell 3 rfl; have o4 := hob.cell 4 rfl; have p0 := hob.free 0 (by simp [V5]); have p1 := hob.free 1 (by simp [V5]); have p2 := hob.free 2 (by simp [V5]); have p3 := hob.free 3 (by simp [V5]); have p4 := hob.free 4 (by simp [V5]); clear hob; have HCA := Lib.hid hcase; clear hcase
                       clear hRx hKx))
                  refine o_fin rfl HRb.out HBb.out hrb ?_
                  intro wq hRq hKq hsame
                  rw [HV.out]
                  rcases HCA.out with ⟨rfl, rfl, hn⟩ | ⟨rfl, hn⟩
                  · rw [hn]; exact rv_ok hN hRq hle hKq
                  · rw [hn]; exact rv_bad hD16 hRq (by omega) hKq
          · have hk := hkunit
            have hv := vm_unit (f := f) h16 hk
            have HV := Lib.hid hv
            have hat : a + 2 ≤ S.size := hasM_end (t := ⟨#[123, 125]⟩) ha hk
            have HT := Lib.hid (wordT (t := ⟨#[123, 125]⟩) HR4.out (by omega) hS (by decide) (by decide) hk)
            clear hv
            go_wp2_with (first
              | (go_at_call 88; (with_reducible refine HT.out.mono ?_); rintro e v1 ⟨rfl, hRx, hKx⟩
                 have hRx : Rr v1 rb S (a + 2) D N false := hRx
                 have HRa := Lib.hid hRx
                 have HBa := Lib.hid (HB4.out.keep hKx hrb)
                 have HLa := Lib.hid (HL4.out.keep1 hKx hrb7)
                 have hob := HBa.out.out; have o0 := hob.cell 0 rfl; have o1 := hob.cell 1 rfl; have o2 := hob.cell 2 rfl; have o3 := hob.cell 3 rfl; have o4 := hob.cell 4 rfl; have p0 := hob.free 0 (by simp [V5]); have p1 := hob.free 1 (by simp [V5]); have p2 := hob.free 2 (by simp [V5]); have p3 := hob.free 3 (by simp [V5]); have p4 := hob.free 4 (by simp [V5]); clear hob
                 clear hRx hKx))
            refine o_fin rfl HRa.out HBa.out hrb ?_
            intro wq hRq hKq hsame
            rw [HV.out]
            exact rv_ok hN hRq hat hKq
        · have hk := hknoptr
          have hv := vm_noptr (f := f) h16 hk
          have HV := Lib.hid hv
          have hat : a + 4 ≤ S.size := hasM_end (t := ⟨#[38, 110, 105, 108]⟩) ha hk
          have HT := Lib.hid (wordT (t := ⟨#[38, 110, 105, 108]⟩) HR3.out (by omega) hS (by decide) (by decide) hk)
          clear hv
          go_wp2_with (first
            | (go_at_call 88; (with_reducible refine HT.out.mono ?_); rintro e v1 ⟨rfl, hRx, hKx⟩
               have hRx : Rr v1 rb S (a + 4) D N false := hRx
               have HRa := Lib.hid hRx
               have HBa := Lib.hid (HB3.out.keep hKx hrb)
               have HLa := Lib.hid (HL3.out.keep1 hKx hrb7)
               have hob := HBa.out.out; have o0 := hob.cell 0 rfl; have o1 := hob.cell 1 rfl; have o2 := hob.cell 2 rfl; have o3 := hob.cell 3 rfl; have o4 := hob.cell 4 rfl; have p0 := hob.free 0 (by simp [V5]); have p1 := hob.free 1 (by simp [V5]); have p2 := hob.free 2 (by simp [V5]); have p3 := hob.free 3 (by simp [V5]); have p4 := hob.free 4 (by simp [V5]); clear hob
               clear hRx hKx))
          refine o_fin rfl HRa.out HBa.out hrb ?_
          intro wq hRq hKq hsame
          rw [HV.out]
          exact rv_ok hN hRq hat hKq
      · have hk := hkfalse
        have hv := vm_false (f := f) h16 hk
        have HV := Lib.hid hv
        have hat : a + 5 ≤ S.size := hasM_end (t := ⟨#[102, 97, 108, 115, 101]⟩) ha hk
        have HT := Lib.hid (wordT (t := ⟨#[102, 97, 108, 115, 101]⟩) HR2.out (by omega) hS (by decide) (by decide) hk)
        clear hv
        go_wp2_with (first
          | (go_at_call 88; (with_reducible refine HT.out.mono ?_); rintro e v1 ⟨rfl, hRx, hKx⟩
             have hRx : Rr v1 rb S (a + 5) D N false := hRx
             have HRa := Lib.hid hRx
             have HBa := Lib.hid (HB2.out.keep hKx hrb)
             have HLa := Lib.hid (HL2.out.keep1 hKx hrb7)
             have hob := HBa.out.out; have o0 := hob.cell 0 rfl; have o1 := hob.cell 1 rfl; have o2 := hob.cell 2 rfl; have o3 := hob.cell 3 rfl; have o4 := hob.cell 4 rfl; have p0 := hob.free 0 (by simp [V5]); have p1 := hob.free 1 (by simp [V5]); have p2 := hob.free 2 (by simp [V5]); have p3 := hob.free 3 (by simp [V5]); have p4 := hob.free 4 (by simp [V5]); clear hob
             clear hRx hKx))
        refine o_fin rfl HRa.out HBa.out hrb ?_
        intro wq hRq hKq hsame
        rw [HV.out]
        exact rv_ok hN hRq hat hKq
    · have hk := hktrue
      have hv := vm_true (f := f) h16 hk
      have HV := Lib.hid hv
      have hat : a + 4 ≤ S.size := hasM_end (t := ⟨#[116, 114, 117, 101]⟩) ha hk
      have HT := Lib.hid (wordT (t := ⟨#[116, 114, 117, 101]⟩) HR1.out (by omega) hS (by decide) (by decide) hk)
      clear hv
      go_wp2_with (first
        | (go_at_call 88; (with_reducible refine HT.out.mono ?_); rintro e v1 ⟨rfl, hRx, hKx⟩
           have hRx : Rr v1 rb S (a + 4) D N false := hRx
           have HRa := Lib.hid hRx
           have HBa := Lib.hid (HB1.out.keep hKx hrb)
           have HLa := Lib.hid (HL1.out.keep1 hKx hrb7)
           have hob := HBa.out.out; have o0 := hob.cell 0 rfl; have o1 := hob.cell 1 rfl; have o2 := hob.cell 2 rfl; have o3 := hob.cell 3 rfl; have o4 := hob.cell 4 rfl; have p0 := hob.free 0 (by simp [V5]); have p1 := hob.free 1 (by simp [V5]); have p2 := hob.free 2 (by simp [V5]); have p3 := hob.free 3 (by simp [V5]); have p4 := hob.free 4 (by simp [V5]); clear hob
           clear hRx hKx))
      refine o_fin rfl HRa.out HBa.out hrb ?_
      intro wq hRq hKq hsame
      rw [HV.out]
      exact rv_ok hN hRq hat hKq
  · have hk := hknil
    have hv := vm_nil (f := f) h16 hk
    have HV := Lib.hid hv
    have hat : a + 3 ≤ S.size := hasM_end (t := ⟨#[110, 105, 108]⟩) ha hk
    have HT := Lib.hid (wordT (t := ⟨#[110, 105, 108]⟩) HR0.out (by omega) hS (by decide) (by decide) hk)
    clear hv
    go_wp2_with (first
      | (go_at_call 88; (with_reducible refine HT.out.mono ?_); rintro e v1 ⟨rfl, hRx, hKx⟩
         have hRx : Rr v1 rb S (a + 3) D N false := hRx
         have HRa := Lib.hid hRx
         have HBa := Lib.hid (HB0.out.keep hKx hrb)
         have HLa := Lib.hid (HL0.out.keep1 hKx hrb7)
         have hob := HBa.out.out; have o0 := hob.cell 0 rfl; have o1 := hob.cell 1 rfl; have o2 := hob.cell 2 rfl; have o3 := hob.cell 3 rfl; have o4 := hob.cell 4 rfl; have p0 := hob.free 0 (by simp [V5]); have p1 := hob.free 1 (by simp [V5]); have p2 := hob.free 2 (by simp [V5]); have p3 := hob.free 3 (by simp [V5]); have p4 := hob.free 4 (by simp [V5]); clear hob
         clear hRx hKx))
    refine o_fin rfl HRa.out HBa.out hrb ?_
    intro wq hRq hKq hsame
    rw [HV.out]
    exact rv_ok hN hRq hat hKq
end Go.Proofs.YtofpdhkdnbnobaaDoor
