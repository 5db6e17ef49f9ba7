/-
  Errors in memory: a row of errors, each with its value, its codes, its parts. Not a statement of the seat.
-/
import Derived.Test.YtbldidiibkcelaaGreatDoorTFits
namespace Go.Proofs.YtbldidiibkcelaaGreatDoor
open Go.RowKit

/-- a row of errors: each node an error with what it wraps, and the row's rest -/
inductive Eo where
  | nil
  | cons (k i c : Int) (t : Bs) (b : Dt) (cs : List Int) (kids rest : Eo)
namespace Eo
def len : Eo → Nat
  | nil => 0
  | cons _ _ _ _ _ _ _ r => r.len + 1
def app : Eo → Eo → Eo
  | nil, g => g
  | cons k i c t b cs ks r, g => cons k i c t b cs ks (r.app g)
theorem len_app : ∀ (f g : Eo), (f.app g).len = f.len + g.len
  | nil, g => by simp [app, len]
  | cons _ _ _ _ _ _ _ r, g => by simp only [app, len, len_app r g]; omega
theorem app_nil : ∀ (f : Eo), f.app nil = f
  | nil => rfl
  | cons _ _ _ _ _ _ _ r => by simp only [app, app_nil r]
theorem app_assoc : ∀ (f g h : Eo), (f.app g).app h = f.app (g.app h)
  | nil, _, _ => rfl
  | cons _ _ _ _ _ _ _ r, g, h => by simp only [app, app_assoc r g h]
/-- of each node's children -/
def All (P : Eo → Prop) : Eo → Prop
  | .nil => True
  | .cons _ _ _ _ _ _ kids rest => P kids ∧ rest.All P
theorem All.split {P : Eo → Prop} : ∀ (f : Eo) {g : Eo}, (f.app g).All P → g.All P
  | .nil, _, h => h
  | .cons _ _ _ _ _ _ _ rest, _, h => All.split rest h.2
end Eo
/-- an error by itself -/
structure Et where
  k : Int
  i : Int
  c : Int
  t : Bs
  b : Dt
  cs : List Int
  l : Eo
def Et.zero : Et := ⟨0, 0, 0, [], Dt.zero, [], .nil⟩
def I8 (cs : List Int) : List Value := cs.map (fun x => Value.int .i64 x)
theorem I8_length (cs : List Int) : (I8 cs).length = cs.length := by simp [I8]
/-- an error's eleven cells -/
def V11 (k i c : Int) (t : Bs) (b : Dt) (bl : Option Addr) (bn bc : Nat) (cl : Option Addr) (cn cc : Nat) (l : Option Addr) (n cap : Nat) : List Value :=
  [.int .i64 k, .int .i64 i, .int .i64 c, .string ⟨t.toArray⟩, .int .i64 b.k, .int .i64 b.i, .int .u64 b.b, .string ⟨b.t.toArray⟩, .slice bl bn bc, .slice cl cn cc, .slice l n cap]
/-- .. as one value -/
def vE (k i c : Int) (t : Bs) (b : Dt) (bl : Option Addr) (bn bc : Nat) (cl : Option Addr) (cn cc : Nat) (l : Option Addr) (n cap : Nat) : Value :=
  .agg #[.int .i64 k, .int .i64 i, .int .i64 c, .string ⟨t.toArray⟩, .int .i64 b.k, .int .i64 b.i, .int .u64 b.b, .string ⟨b.t.toArray⟩, .slice bl bn bc, .slice cl cn cc, .slice l n cap]
/-- a row of errors in memory, by its cells -/
def EAt (S : Nat → Prop) (w : World) : Eo → List Value → Prop
  | .nil, vs => vs = []
  | .cons k i c t b cs kids rest, vs => ∃ bl bn bc cl cn cc l n cap ks vs', vs = V11 k i c t b bl bn bc cl cn cc l n cap ++ vs' ∧
      FoAt S w b.l bl bn bc ∧ (Rd w 1 cl cn cc (I8 cs) ∧ (∀ x, 0 < cn → blockOf cl = some x → S x)) ∧ (Rd w 11 l n cap ks ∧ (∀ x, 0 < n → blockOf l = some x → S x)) ∧ EAt S w kids ks ∧ EAt S w rest vs'
/-- .. by its slice -/
def EoAt (S : Nat → Prop) (w : World) (f : Eo) (l : Option Addr) (n cap : Nat) : Prop := ∃ vs, (Rd w 11 l n cap vs ∧ (∀ x, 0 < n → blockOf l = some x → S x)) ∧ EAt S w f vs
/-- what an error's three rows are -/
def ErAt (S : Nat → Prop) (w : World) (e : Et) (bl : Option Addr) (bn bc : Nat) (cl : Option Addr) (cn cc : Nat) (l : Option Addr) (n cap : Nat) : Prop :=
  FoAt S w e.b.l bl bn bc ∧ (Rd w 1 cl cn cc (I8 e.cs) ∧ (∀ x, 0 < cn → blockOf cl = some x → S x)) ∧ EoAt S w e.l l n cap
section
variable {S S' : Nat → Prop} {w w' : World}
theorem EAt.len : ∀ (f : Eo) {vs : List Value}, EAt S w f vs → vs.length = f.len * 11
  | .nil, vs, h => by cases h; rfl
  | .cons k i c t b cs kids rest, vs, h => by
    obtain ⟨bl, bn, bc, cl, cn, cc, l, n, cap, ks, vs', rfl, _, _, _, _, h⟩ := h
    have := EAt.len rest h
    simp only [V11, List.length_append, List.length_cons, List.length_nil, Eo.len]
    omega
theorem Rd.inS {sz : Nat} {a : Option Addr} {n cap : Nat} {xs : List Value} (h1 : Rd w sz a n cap xs) (h2 : ∀ x, 0 < n → blockOf a = some x → S x) (hs : ∀ b, S b → b < w.heap.size → S' b) : ∀ x, 0 < n → blockOf a = some x → S' x := by
  intro x hn hx
  refine hs x (h2 x hn hx) ?_
  rcases h1.2.2.2 with ⟨h5, _⟩ | ⟨b, off, rfl, hlt, _⟩
  · omega
  · cases hx; exact hlt
theorem EAt.same : ∀ (f : Eo) {vs : List Value}, EAt S w f vs → (∀ b, S b → b < w.heap.size → w'.heap[b]? = w.heap[b]?) → (∀ b, S b → b < w.heap.size → S' b) → EAt S' w' f vs
  | .nil, _, h, _, _ => h
  | .cons k i c t b cs kids rest, vs, h, hb, hs => by
    obtain ⟨bl, bn, bc, cl, cn, cc, l, n, cap, ks, vs', rfl, h1, ⟨h2, h3⟩, ⟨h4, h5⟩, h6, h7⟩ := h
    exact ⟨bl, bn, bc, cl, cn, cc, l, n, cap, ks, vs', rfl, h1.same hb hs, ⟨h2.same0 (fun x hn hx hl => hb x (h3 x hn hx) hl), h2.inS h3 hs⟩, ⟨h4.same0 (fun x hn hx hl => hb x (h5 x hn hx) hl), h4.inS h5 hs⟩, EAt.same kids h6 hb hs, EAt.same rest h7 hb hs⟩
theorem EAt.app : ∀ (f : Eo) {g : Eo} {vs vs' : List Value}, EAt S w f vs → EAt S w g vs' → EAt S w (f.app g) (vs ++ vs')
  | .nil, _, _, _, h, h' => by cases h; exact h'
  | .cons k i c t b cs kids rest, g, vs, vs', h, h' => by
    obtain ⟨bl, bn, bc, cl, cn, cc, l, n, cap, ks, vs1, rfl, h1, h2, h4, h6, h7⟩ := h
    exact ⟨bl, bn, bc, cl, cn, cc, l, n, cap, ks, vs1 ++ vs', by rw [List.append_assoc], h1, h2, h4, h6, EAt.app rest h7 h'⟩
theorem EAt.split : ∀ (f : Eo) {g : Eo} {vs : List Value}, EAt S w (f.app g) vs → ∃ vs1 vs2, vs = vs1 ++ vs2 ∧ EAt S w f vs1 ∧ EAt S w g vs2
  | .nil, _, vs, h => ⟨[], vs, rfl, rfl, h⟩
  | .cons k i c t b cs kids rest, _, vs, h => by
    obtain ⟨bl, bn, bc, cl, cn, cc, l, n, cap, ks, vs', rfl, h1, h2, h4, h6, h7⟩ := h
    obtain ⟨v1, v2, rfl, h8, h9⟩ := EAt.split rest h7
    exact ⟨_, v2, by rw [List.append_assoc], ⟨bl, bn, bc, cl, cn, cc, l, n, cap, ks, v1, rfl, h1, h2, h4, h6, h8⟩, h9⟩
theorem EoAt.len {f : Eo} {l : Option Addr} {n cap : Nat} (h : EoAt S w f l n cap) : f.len = n := by
  obtain ⟨vs, ⟨h1, _⟩, h2⟩ := h
  have := EAt.len f h2
  have := h1.1
  omega
theorem EoAt.same {f : Eo} {l : Option Addr} {n cap : Nat} (h : EoAt S w f l n cap) (hb : ∀ b, S b → b < w.heap.size → w'.heap[b]? = w.heap[b]?) (hs : ∀ b, S b → b < w.heap.size → S' b) : EoAt S' w' f l n cap := by
  obtain ⟨vs, ⟨h1, h2⟩, h3⟩ := h
  exact ⟨vs, ⟨h1.same0 (fun x hn hx hl => hb x (h2 x hn hx) hl), h1.inS h2 hs⟩, EAt.same f h3 hb hs⟩
theorem ErAt.same {e : Et} {bl : Option Addr} {bn bc : Nat} {cl : Option Addr} {cn cc : Nat} {l : Option Addr} {n cap : Nat} (h : ErAt S w e bl bn bc cl cn cc l n cap) (hb : ∀ b, S b → b < w.heap.size → w'.heap[b]? = w.heap[b]?) (hs : ∀ b, S b → b < w.heap.size → S' b) : ErAt S' w' e bl bn bc cl cn cc l n cap :=
  ⟨h.1.same hb hs, ⟨h.2.1.1.same0 (fun x hn hx hl => hb x (h.2.1.2 x hn hx) hl), h.2.1.1.inS h.2.1.2 hs⟩, h.2.2.same hb hs⟩
theorem EoAt.nil (S : Nat → Prop) (w : World) : EoAt S w .nil none 0 0 := ⟨[], ⟨Rd.nil w 11, fun _ h => absurd h (by omega)⟩, rfl⟩
end
/-- an element of a row, by its place: its eleven cells, and its rows -/
theorem EoAt.elem {S : Nat → Prop} {w : World} {dn ks rest : Eo} {k i c : Int} {t : Bs} {b : Dt} {cs : List Int} {l : Option Addr} {n cap : Nat} (h : EoAt S w (dn.app (.cons k i c t b cs ks rest)) l n cap) :
    ∃ bb off bl bn bc cl cn cc l2 n2 cap2, l = some ⟨bb, off, none⟩ ∧ ErAt S w ⟨k, i, c, t, b, cs, ks⟩ bl bn bc cl cn cc l2 n2 cap2 ∧
      (∀ j, j < 11 → w.cell? ⟨bb, off + dn.len * 11 + j, none⟩ = (V11 k i c t b bl bn bc cl cn cc l2 n2 cap2)[j]?) ∧ n ≤ 9223372036854775807 ∧ dn.len < n := by
  have hlen := h.len
  rw [Eo.len_app] at hlen
  have hlr : (Eo.cons k i c t b cs ks rest).len = rest.len + 1 := rfl
  have hjn : dn.len < n := by omega
  obtain ⟨vs, ⟨hRd, hSx⟩, hAt⟩ := h
  have hHead := hRd.at (k := dn.len) hjn
  have hnb : n ≤ 9223372036854775807 := by have h1 := hRd.le; have h2 := hRd.max; unfold maxLen at h2; omega
  obtain ⟨v1, v2, rfl, hA1, hA2⟩ := EAt.split dn hAt
  have hl1 := EAt.len dn hA1
  obtain ⟨bl, bn, bc, cl, cn, cc, l2, n2, cap2, ks2, vs', rfl, h1, h2, h4, h6, _⟩ := hA2
  obtain ⟨bb2, off, rfl, hlt, hc⟩ := hHead
  refine ⟨bb2, off, bl, bn, bc, cl, cn, cc, l2, n2, cap2, rfl, ⟨h1, h2, ks2, h4, h6⟩, fun j hj => ?_, hnb, hjn⟩
  have hV : (V11 k i c t b bl bn bc cl cn cc l2 n2 cap2).length = 11 := rfl
  rw [hc j hj, List.getElem?_append_right (by omega), hl1, Nat.add_sub_cancel_left, List.getElem?_append_left (by omega)]
end Go.Proofs.YtbldidiibkcelaaGreatDoor

/-
  The document's Same (walk). Not a statement of the seat.
-/
namespace Go.Proofs.YtbldidiibkcelaaGreatDoor
open Go.RowKit

def SOK (kids : Fo) : Prop := ∀ (g : Fo) (k i b k' i' b' : Int) (t t' : Bs) (l l' : Option Addr) (n c n' c' : Nat) (S : Nat → Prop) (w : World), FoAt S w kids l n c → FoAt S w g l' n' c' → (∀ x, S x → x < w.heap.size) →
  Calls Tryz.prog 49 #[.agg #[.int .i64 k, .int .i64 i, .int .u64 b, .string ⟨t.toArray⟩, .slice l n c], .agg #[.int .i64 k', .int .i64 i', .int .u64 b', .string ⟨t'.toArray⟩, .slice l' n' c']] w
    (fun e w' => e = .returned (.bool (headM k i b t n k' i' b' t' n' && sameM kids g)) ∧ Below w.heap.size w w')
def SRel (kids g : Fo) (w : World) (t44 : Value) (wr : World) : Prop := ∃ (dn dn' rest rest' : Fo), t44 = .int .i64 (dn.len : Nat) ∧ dn'.len = dn.len ∧ kids = dn.app rest ∧ g = dn'.app rest' ∧ Below w.heap.size w wr ∧ sameM kids g = sameM rest rest'
set_option maxRecDepth 100000 in
set_option maxHeartbeats 16000000 in
theorem rsameN {kids : Fo} (hall : kids.All SOK) : SOK kids := by
  intro g k i b k' i' b' t t' l l' n c n' c' S w hF hG hS
  generalize hhd : headM k i b t n k' i' b' t' n' = hd
  have HHD := Lib.hid hhd
  have hA := (Blk.new w #[.int .i64 k, .int .i64 i, .int .u64 b, .string ⟨t.toArray⟩, .slice l n c] 25).alloc (.cells #[.int .i64 k', .int .i64 i', .int .u64 b', .string ⟨t'.toArray⟩, .slice l' n' c'] 25)
  have hA' := Blk.new (w.alloc (.cells #[.int .i64 k, .int .i64 i, .int .u64 b, .string ⟨t.toArray⟩, .slice l n c] 25)) #[.int .i64 k', .int .i64 i', .int .u64 b', .string ⟨t'.toArray⟩, .slice l' n' c'] 25
  have hs1 : (w.alloc (.cells #[.int .i64 k, .int .i64 i, .int .u64 b, .string ⟨t.toArray⟩, .slice l n c] 25)).heap.size = w.heap.size + 1 := by simp
  rw [hs1] at hA'
  have hB : Below w.heap.size w ((w.alloc (.cells #[.int .i64 k, .int .i64 i, .int .u64 b, .string ⟨t.toArray⟩, .slice l n c] 25)).alloc (.cells #[.int .i64 k', .int .i64 i', .int .u64 b', .string ⟨t'.toArray⟩, .slice l' n' c'] 25)) := ((Below.refl _ w).alloc (Nat.le_refl _) _).alloc (by simp) _
  have HF := Lib.hid hF
  have HG := Lib.hid hG
  have HS := Lib.hid hS
  have HALL := Lib.hid hall
  clear hF hG hS hall hhd hs1
  go_enter Tryz.func49, Tryz.ntmps49
  go_upto_region 1 with (fail)
  generalize (w.alloc (.cells #[.int .i64 k, .int .i64 i, .int .u64 b, .string ⟨t.toArray⟩, .slice l n c] 25)).alloc (.cells #[.int .i64 k', .int .i64 i', .int .u64 b', .string ⟨t'.toArray⟩, .slice l' n' c'] 25) = w1 at *
  have b0 := hA.cell 0 rfl
  have b1 := hA.cell 1 rfl
  have b2 := hA.cell 2 rfl
  have b3 := hA.cell 3 rfl
  have b4 := hA.cell 4 rfl
  have d0 := hA'.cell 0 rfl
  have d1 := hA'.cell 1 rfl
  have d2 := hA'.cell 2 rfl
  have d3 := hA'.cell 3 rfl
  have d4 := hA'.cell 4 rfl
  have HB := Lib.hid hB
  have HA := Lib.hid hA
  have HA' := Lib.hid hA'
  clear hA hA' hB
  go_cut [40] from 41 (fun s40 wx => wx = w1 ∧ ∃ nf, s40 = .bool nf ∧ hd = !nf)
  · cases h1 : (k != k')
    · have h1p := h1
      simp only [bne_eq_false_iff_eq] at h1p
      have H1P := Lib.hid h1p
      clear h1p
      cases h2 : (i != i')
      · have h2p := h2
        simp only [bne_eq_false_iff_eq] at h2p
        have H2P := Lib.hid h2p
        clear h2p
        cases h3 : (b != b')
        · have h3p := h3
          simp only [bne_eq_false_iff_eq] at h3p
          have H3P := Lib.hid h3p
          clear h3p
          cases h4 : (t != t')
          · have h4p := h4
            simp only [bne_eq_false_iff_eq] at h4p
            subst h4p
            clear h4
            cases h5 : ((n : Int) != (n' : Int))
            · have h5p := h5
              simp only [bne_eq_false_iff_eq] at h5p
              replace h5p : n = n' := by omega
              have H5P := Lib.hid h5p
              clear h5p
              go_wp2_with fail
              go_meet
              case rel => exact ⟨rfl, _, rfl, by rw [← HHD.out]; simp [headM, H1P.out, H2P.out, H3P.out, H5P.out]⟩
            · have h5p := h5
              simp only [bne_iff_ne, ne_eq] at h5p
              replace h5p : ¬ n = n' := by omega
              have H5P := Lib.hid h5p
              clear h5p
              go_wp2_with fail
              go_meet
              case rel => exact ⟨rfl, _, rfl, by rw [← HHD.out]; simp [headM, H1P.out, H2P.out, H3P.out, H5P.out]⟩
          · have h4p := h4
            simp only [bne_iff_ne, ne_eq] at h4p
            have H4P := Lib.hid h4p
            clear h4p
            go_wp2_with fail
            go_meet
            case rel => exact ⟨rfl, _, rfl, by rw [← HHD.out]; simp [headM, H1P.out, H2P.out, H3P.out, H4P.out]⟩
        · have h3p := h3
          simp only [bne_iff_ne, ne_eq] at h3p
          have H3P := Lib.hid h3p
          clear h3p
          go_wp2_with fail
          go_meet
          case rel => exact ⟨rfl, _, rfl, by rw [← HHD.out]; simp [headM, H1P.out, H2P.out, H3P.out]⟩
      · have h2p := h2
        simp only [bne_iff_ne, ne_eq] at h2p
        have H2P := Lib.hid h2p
        clear h2p
        go_wp2_with fail
        go_meet
        case rel => exact ⟨rfl, _, rfl, by rw [← HHD.out]; simp [headM, H1P.out, H2P.out]⟩
    · have h1p := h1
      simp only [bne_iff_ne, ne_eq] at h1p
      have H1P := Lib.hid h1p
      clear h1p
      go_wp2_with fail
      go_meet
      case rel => exact ⟨rfl, _, rfl, by rw [← HHD.out]; simp [headM, H1P.out]⟩
  · obtain ⟨rfl, nf, rfl, hnf⟩ := hcut
    clear b0 b1 b2 b3 d0 d1 d2 d3
    cases nf
    rotate_left
    · replace hnf : hd = false := hnf
      subst hnf
      go_wp2_with fail
      go_ret
      exact ⟨rfl, HB.out⟩
    · replace hnf : hd = true := hnf
      have hnn : n = n' := by
        have h := HHD.out
        rw [hnf] at h
        simp only [headM, Bool.and_eq_true, beq_iff_eq] at h
        exact h.2.2.2.2
      subst hnf
      have HNN := Lib.hid hnn
      clear hnn
      go_wp2_with fail
      go_loopw [44] (fun t44 wr => SRel kids g w t44 wr ∧ Below wc.heap.size wc wr) (fun t44 _ => n - (intOf t44).toNat)
      case atStart => exact ⟨⟨.nil, .nil, kids, g, rfl, rfl, rfl, rfl, HB.out, rfl⟩, Below.refl _ _⟩
      case round =>
        obtain ⟨⟨dn, dn', rest, rest', rfl, hdl, hk, hk', hBw, hq⟩, hB1⟩ := hrel
        have c4 := cellAt hB1 b4
        have c4' := cellAt hB1 d4
        have HBw := Lib.hid hBw
        have HB1 := Lib.hid hB1
        have hF := HF.out.same (w' := wr) (fun x hx hlt => hBw.block x hlt) (fun x hx _ => hx)
        have hG := HG.out.same (w' := wr) (fun x hx hlt => hBw.block x hlt) (fun x hx _ => hx)
        have hlen := hF.len
        have hlen' := hG.len
        rw [hk, Fo.len_app] at hlen
        rw [hk', Fo.len_app, ← HNN.out] at hlen'
        clear hBw hB1 b4 d4
        cases rest with
        | nil =>
          have hj : ¬ (dn.len : Int) < (n : Int) := by have : Fo.len .nil = 0 := rfl; omega
          cases rest' with
          | cons k2 i2 b2 t2 ks r2 =>
            have hlr : (Fo.cons k2 i2 b2 t2 ks r2).len = r2.len + 1 := rfl
            have : Fo.len .nil = 0 := rfl
            omega
          | nil =>
          have HR := Lib.hid hq
          clear hq hk hk' hlen hlen' hF hG hdl
          go_wp2_with fail
          go_ret
          exact ⟨by rw [HR.out]; rfl, HBw.out⟩
        | cons k2 i2 b2 t2 ks r2 =>
          have hlr : (Fo.cons k2 i2 b2 t2 ks r2).len = r2.len + 1 := rfl
          cases rest' with
          | nil =>
            have : Fo.len .nil = 0 := rfl
            omega
          | cons k3 i3 b3 t3 ks3 r3 =>
          rw [hk] at hF
          rw [hk'] at hG
          obtain ⟨bb, off, a2, n2, cp2, rfl, hkF, e0, e1, e2, e3, e4, hnb, hjn⟩ := hF.elem
          obtain ⟨bb', off', a3, n3, cp3, rfl, hgF, f0, f1, f2, f3, f4, hnb', hjn'⟩ := hG.elem
          rw [hdl] at f0 f1 f2 f3 f4
          have hj : (dn.len : Int) < (n : Int) := by omega
          have hj' : (dn.len : Int) < (n' : Int) := by have := HNN.out; omega
          have hjn2 : dn.len < n' := by have := HNN.out; omega
          have hOK : SOK ks := by
            have hal := HALL.out
            rw [hk] at hal
            exact (Fo.All.split dn hal).1
          have hkl := hkF.len
          have hgl := hgF.len
          have hsq : sameM (.cons k2 i2 b2 t2 ks r2) (.cons k3 i3 b3 t3 ks3 r3) = ((headM k2 i2 b2 t2 n2 k3 i3 b3 t3 n3 && sameM ks ks3) && sameM r2 r3) := by rw [sameM, hkl, hgl]; rfl
          rw [hsq] at hq
          have HC := Lib.hid (fun (wx : World) (hx : Below wr.heap.size wr wx) => hOK ks3 k2 i2 b2 k3 i3 b3 t2 t3 a2 a3 n2 cp2 n3 cp3 S wx (hkF.same (w' := wx) (fun x _ hlt => hx.block x hlt) (fun x hx2 _ => hx2)) (hgF.same (w' := wx) (fun x _ hlt => hx.block x hlt) (fun x hx2 _ => hx2)) (fun x hx2 => Nat.lt_of_lt_of_le (HS.out x hx2) (Nat.le_trans HBw.out.size hx.size)))
          have HKEEP := Lib.hid (show ∀ wx, Below wr.heap.size wr wx → (wx.cell? ⟨w.heap.size, 4, none⟩ = some (.slice (some ⟨bb, off, none⟩) n c) ∧ wx.cell? ⟨w.heap.size + 1, 4, none⟩ = some (.slice (some ⟨bb', off', none⟩) n' c')) ∧
              (wx.cell? ⟨bb, off + dn.len * 5, none⟩ = some (.int .i64 k2) ∧ wx.cell? ⟨bb, off + dn.len * 5 + 1, none⟩ = some (.int .i64 i2) ∧ wx.cell? ⟨bb, off + dn.len * 5 + 2, none⟩ = some (.int .u64 b2) ∧ wx.cell? ⟨bb, off + dn.len * 5 + 3, none⟩ = some (.string ⟨t2.toArray⟩) ∧ wx.cell? ⟨bb, off + dn.len * 5 + 4, none⟩ = some (.slice a2 n2 cp2)) ∧
              (wx.cell? ⟨bb', off' + dn.len * 5, none⟩ = some (.int .i64 k3) ∧ wx.cell? ⟨bb', off' + dn.len * 5 + 1, none⟩ = some (.int .i64 i3) ∧ wx.cell? ⟨bb', off' + dn.len * 5 + 2, none⟩ = some (.int .u64 b3) ∧ wx.cell? ⟨bb', off' + dn.len * 5 + 3, none⟩ = some (.string ⟨t3.toArray⟩) ∧ wx.cell? ⟨bb', off' + dn.len * 5 + 4, none⟩ = some (.slice a3 n3 cp3)) from
            fun wx hx => ⟨⟨cellAt hx c4, cellAt hx c4'⟩, ⟨cellAt hx e0, cellAt hx e1, cellAt hx e2, cellAt hx e3, cellAt hx e4⟩, ⟨cellAt hx f0, cellAt hx f1, cellAt hx f2, cellAt hx f3, cellAt hx f4⟩⟩)
          generalize (headM k2 i2 b2 t2 n2 k3 i3 b3 t3 n3 && sameM ks ks3) = fk at *
          have HKK := Lib.hid (And.intro hk hk')
          have HJ := Lib.hid (And.intro hjn hjn2)
          have HQ := Lib.hid hq
          have HDL := Lib.hid hdl
          clear hkF hgF hOK hk hk' hkl hgl hsq hq hlen hlen' hF hG hlr hdl hjn' hnb'
          generalize hjj : dn.len = j at *
          have HJJ := Lib.hid hjj
          clear hjj
          cases fk
          · go_wp2_with fail
            go_region_held3 (fun wx : World => (wx.cell? ⟨w.heap.size, 4, none⟩ = some (.slice (some ⟨bb, off, none⟩) n c) ∧ wx.cell? ⟨w.heap.size + 1, 4, none⟩ = some (.slice (some ⟨bb', off', none⟩) n' c')) ∧
                (wx.cell? ⟨bb, off + j * 5, none⟩ = some (.int .i64 k2) ∧ wx.cell? ⟨bb, off + j * 5 + 1, none⟩ = some (.int .i64 i2) ∧ wx.cell? ⟨bb, off + j * 5 + 2, none⟩ = some (.int .u64 b2) ∧ wx.cell? ⟨bb, off + j * 5 + 3, none⟩ = some (.string ⟨t2.toArray⟩) ∧ wx.cell? ⟨bb, off + j * 5 + 4, none⟩ = some (.slice a2 n2 cp2)) ∧
                (wx.cell? ⟨bb', off' + j * 5, none⟩ = some (.int .i64 k3) ∧ wx.cell? ⟨bb', off' + j * 5 + 1, none⟩ = some (.int .i64 i3) ∧ wx.cell? ⟨bb', off' + j * 5 + 2, none⟩ = some (.int .u64 b3) ∧ wx.cell? ⟨bb', off' + j * 5 + 3, none⟩ = some (.string ⟨t3.toArray⟩) ∧ wx.cell? ⟨bb', off' + j * 5 + 4, none⟩ = some (.slice a3 n3 cp3)))
              (first | exact HKEEP.out _ (Below.refl _ _) | exact HKEEP.out _ (Below.refl _ _).drew | exact HKEEP.out _ HBA.out)
              (first
                | (go_simp; go_at_call 49; refine (HC.out _ (Below.refl _ _).drew).mono ?_; rintro eA wA ⟨rfl, hbA⟩; have HBA := Lib.hid ((Below.refl wr.heap.size wr).drew.trans hbA); clear hbA))
            all_goals
              go_wp2_with fail
              go_ret
              exact ⟨by rw [HQ.out]; rfl, HBw.out.trans (HBA.out.mono HBw.out.size)⟩
          · go_wp2_with fail
            go_region_held3 (fun wx : World => (wx.cell? ⟨w.heap.size, 4, none⟩ = some (.slice (some ⟨bb, off, none⟩) n c) ∧ wx.cell? ⟨w.heap.size + 1, 4, none⟩ = some (.slice (some ⟨bb', off', none⟩) n' c')) ∧
                (wx.cell? ⟨bb, off + j * 5, none⟩ = some (.int .i64 k2) ∧ wx.cell? ⟨bb, off + j * 5 + 1, none⟩ = some (.int .i64 i2) ∧ wx.cell? ⟨bb, off + j * 5 + 2, none⟩ = some (.int .u64 b2) ∧ wx.cell? ⟨bb, off + j * 5 + 3, none⟩ = some (.string ⟨t2.toArray⟩) ∧ wx.cell? ⟨bb, off + j * 5 + 4, none⟩ = some (.slice a2 n2 cp2)) ∧
                (wx.cell? ⟨bb', off' + j * 5, none⟩ = some (.int .i64 k3) ∧ wx.cell? ⟨bb', off' + j * 5 + 1, none⟩ = some (.int .i64 i3) ∧ wx.cell? ⟨bb', off' + j * 5 + 2, none⟩ = some (.int .u64 b3) ∧ wx.cell? ⟨bb', off' + j * 5 + 3, none⟩ = some (.string ⟨t3.toArray⟩) ∧ wx.cell? ⟨bb', off' + j * 5 + 4, none⟩ = some (.slice a3 n3 cp3)))
              (first | exact HKEEP.out _ (Below.refl _ _) | exact HKEEP.out _ (Below.refl _ _).drew | exact HKEEP.out _ HBA.out)
              (first
                | (go_simp; go_at_call 49; refine (HC.out _ (Below.refl _ _).drew).mono ?_; rintro eA wA ⟨rfl, hbA⟩; have HBA := Lib.hid ((Below.refl wr.heap.size wr).drew.trans hbA); clear hbA))
            all_goals
              go_wp2_with fail
              go_roundw
              case rel =>
                refine ⟨⟨dn.app (.cons k2 i2 b2 t2 ks .nil), dn'.app (.cons k3 i3 b3 t3 ks3 .nil), r2, r3, ?_, ?_, ?_, ?_, HBw.out.trans (HBA.out.mono HBw.out.size), by rw [HQ.out]; simp⟩, HB1.out.trans (HBA.out.mono HB1.out.size)⟩
                · rw [Fo.len_app, HJJ.out, show (Fo.cons k2 i2 b2 t2 ks .nil).len = 1 from rfl]; go_num
                · rw [Fo.len_app, Fo.len_app, HDL.out, HJJ.out]; rfl
                · rw [Fo.app_assoc]; exact HKK.out.1
                · rw [Fo.app_assoc]; exact HKK.out.2
              case measure => simp [intOf]; have := HJ.out; omega
theorem rsameAll : ∀ f : Fo, f.All SOK
  | .nil => trivial
  | .cons _ _ _ _ kids rest => ⟨rsameN (rsameAll kids), rsameAll rest⟩
theorem rsameG (kids : Fo) : SOK kids := rsameN (rsameAll kids)
end Go.Proofs.YtbldidiibkcelaaGreatDoor

/-
  The program's Same (walks). Not a statement of the seat.
-/
namespace Go.Proofs.YtbldidiibkcelaaGreatDoor
open Go.RowKit

def TOK (kids : Fo) : Prop := ∀ (g : Fo) (k i b k' i' b' : Int) (t t' : Bs) (l l' : Option Addr) (n c n' c' : Nat) (S : Nat → Prop) (w : World), FoAt S w kids l n c → FoAt S w g l' n' c' → (∀ x, S x → x < w.heap.size) →
  Calls Tryz.prog 46 #[.agg #[.int .i64 k, .int .i64 i, .int .u64 b, .string ⟨t.toArray⟩, .slice l n c], .agg #[.int .i64 k', .int .i64 i', .int .u64 b', .string ⟨t'.toArray⟩, .slice l' n' c']] w
    (fun e w' => e = .returned (.bool (headM k i b t n k' i' b' t' n' && sameM kids g)) ∧ Below w.heap.size w w')
set_option maxRecDepth 100000 in
set_option maxHeartbeats 16000000 in
theorem efN {kids : Fo} (hall : kids.All TOK) {g : Fo} {l l' : Option Addr} {n c n' c' : Nat} {S : Nat → Prop} {w : World} (hF : FoAt S w kids l n c) (hG : FoAt S w g l' n' c') (hS : ∀ x, S x → x < w.heap.size) :
    Calls Tryz.prog 82 #[.slice l n c, .slice l' n' c', .func (.func 46) #[] #[]] w (fun e w' => e = .returned (.bool (sameM kids g)) ∧ Below w.heap.size w w') := by
  have hnl := hF.len
  have hnl' := hG.len
  have HF := Lib.hid hF
  have HG := Lib.hid hG
  have HS := Lib.hid hS
  have HALL := Lib.hid hall
  clear hF hG hS hall
  by_cases hnn : n = n'
  · subst hnn
    have HNN := Lib.hid (hnl.trans hnl'.symm)
    clear hnl hnl'
    have hbe : ((n : Int) != (n : Int)) = false := by simp
    go_enter Tryz.func82, Tryz.ntmps82
    go_wp2_with fail
    go_loopw [17] (fun t17 wr => SRel kids g w t17 wr) (fun t17 _ => n - (intOf t17).toNat)
    case atStart => exact ⟨.nil, .nil, kids, g, rfl, rfl, rfl, rfl, Below.refl _ _, rfl⟩
    case round =>
      obtain ⟨dn, dn', rest, rest', rfl, hdl, hk, hk', hBw, hq⟩ := hrel
      have HBw := Lib.hid hBw
      have hF := HF.out.same (w' := wr) (fun x hx hlt => hBw.block x hlt) (fun x hx _ => hx)
      have hG := HG.out.same (w' := wr) (fun x hx hlt => hBw.block x hlt) (fun x hx _ => hx)
      have hlen := hF.len
      have hlen' := hG.len
      rw [hk, Fo.len_app] at hlen
      rw [hk', Fo.len_app] at hlen'
      clear hBw
      cases rest with
      | nil =>
        have hj : ¬ (dn.len : Int) < (n : Int) := by have : Fo.len .nil = 0 := rfl; omega
        cases rest' with
        | cons k2 i2 b2 t2 ks r2 =>
          have hlr : (Fo.cons k2 i2 b2 t2 ks r2).len = r2.len + 1 := rfl
          have : Fo.len .nil = 0 := rfl
          omega
        | nil =>
        have HR := Lib.hid hq
        clear hq hk hk' hlen hlen' hF hG hdl
        go_wp2_with fail
        go_ret
        exact ⟨by rw [HR.out]; rfl, HBw.out⟩
      | cons k2 i2 b2 t2 ks r2 =>
        have hlr : (Fo.cons k2 i2 b2 t2 ks r2).len = r2.len + 1 := rfl
        cases rest' with
        | nil =>
          have : Fo.len .nil = 0 := rfl
          omega
        | cons k3 i3 b3 t3 ks3 r3 =>
        rw [hk] at hF
        rw [hk'] at hG
        obtain ⟨bb, off, a2, n2, cp2, rfl, hkF, e0, e1, e2, e3, e4, hnb, hjn⟩ := hF.elem
        obtain ⟨bb', off', a3, n3, cp3, rfl, hgF, f0, f1, f2, f3, f4, hnb', hjn'⟩ := hG.elem
        rw [hdl] at f0 f1 f2 f3 f4
        have hj : (dn.len : Int) < (n : Int) := by omega
        have hOK : TOK ks := by
          have hal := HALL.out
          rw [hk] at hal
          exact (Fo.All.split dn hal).1
        have hkl := hkF.len
        have hgl := hgF.len
        have hsq : sameM (.cons k2 i2 b2 t2 ks r2) (.cons k3 i3 b3 t3 ks3 r3) = ((headM k2 i2 b2 t2 n2 k3 i3 b3 t3 n3 && sameM ks ks3) && sameM r2 r3) := by rw [sameM, hkl, hgl]; rfl
        rw [hsq] at hq
        have HC := Lib.hid (fun (wx : World) (hx : Below wr.heap.size wr wx) => hOK ks3 k2 i2 b2 k3 i3 b3 t2 t3 a2 a3 n2 cp2 n3 cp3 S wx (hkF.same (w' := wx) (fun x _ hlt => hx.block x hlt) (fun x hx2 _ => hx2)) (hgF.same (w' := wx) (fun x _ hlt => hx.block x hlt) (fun x hx2 _ => hx2)) (fun x hx2 => Nat.lt_of_lt_of_le (HS.out x hx2) (Nat.le_trans HBw.out.size hx.size)))
        have hab : Below wr.heap.size wr ((wr.alloc (.cells #[.int .i64 k2, .int .i64 i2, .int .u64 b2, .string ⟨t2.toArray⟩, .slice a2 n2 cp2] 25)).alloc (.cells #[.int .i64 k3, .int .i64 i3, .int .u64 b3, .string ⟨t3.toArray⟩, .slice a3 n3 cp3] 25)) := ((Below.refl _ _).alloc (Nat.le_refl _) _).alloc (by simp) _
        have hab1 : Below wr.heap.size wr (wr.alloc (.cells #[.int .i64 k2, .int .i64 i2, .int .u64 b2, .string ⟨t2.toArray⟩, .slice a2 n2 cp2] 25)) := (Below.refl _ _).alloc (Nat.le_refl _) _
        have f0' := cellAt hab1 f0
        have f1' := cellAt hab1 f1
        have f2' := cellAt hab1 f2
        have f3' := cellAt hab1 f3
        have f4' := cellAt hab1 f4
        have HAB := Lib.hid hab
        generalize (headM k2 i2 b2 t2 n2 k3 i3 b3 t3 n3 && sameM ks ks3) = fk at *
        have HKK := Lib.hid (And.intro hk hk')
        have HJ := Lib.hid hjn
        have HQ := Lib.hid hq
        have HDL := Lib.hid hdl
        clear hkF hgF hOK hk hk' hkl hgl hsq hq hlen hlen' hF hG hlr hdl hjn' hnb' hab hab1
        generalize hjj : dn.len = j at *
        have HJJ := Lib.hid hjj
        clear hjj
        cases fk
        · go_wp2_with (go_at_call 46; (with_reducible refine (HC.out _ HAB.out).mono ?_); rintro eA wA ⟨rfl, hbA⟩; have HBA := Lib.hid (HAB.out.trans (hbA.mono HAB.out.size)); clear hbA)
          go_ret
          exact ⟨by rw [HQ.out]; rfl, HBw.out.trans (HBA.out.mono HBw.out.size)⟩
        · go_wp2_with (go_at_call 46; (with_reducible refine (HC.out _ HAB.out).mono ?_); rintro eA wA ⟨rfl, hbA⟩; have HBA := Lib.hid (HAB.out.trans (hbA.mono HAB.out.size)); clear hbA)
          go_roundw
          case rel =>
            refine ⟨dn.app (.cons k2 i2 b2 t2 ks .nil), dn'.app (.cons k3 i3 b3 t3 ks3 .nil), r2, r3, ?_, ?_, ?_, ?_, HBw.out.trans (HBA.out.mono HBw.out.size), by rw [HQ.out]; simp⟩
            · rw [Fo.len_app, HJJ.out, show (Fo.cons k2 i2 b2 t2 ks .nil).len = 1 from rfl]; go_num
            · rw [Fo.len_app, Fo.len_app, HDL.out, HJJ.out]; rfl
            · rw [Fo.app_assoc]; exact HKK.out.1
            · rw [Fo.app_assoc]; exact HKK.out.2
          case measure => simp [intOf]; have := HJ.out; omega
  · have hne : sameM kids g = false := by
      cases h : sameM kids g
      · rfl
      · exact absurd (sameM_len kids g h) (by omega)
    rw [hne]
    have hbe : ((n : Int) != (n' : Int)) = true := by simp; omega
    go_enter Tryz.func82, Tryz.ntmps82
    go_wp2_with fail
    go_ret
    exact ⟨rfl, Below.refl _ _⟩
set_option maxRecDepth 100000 in
set_option maxHeartbeats 16000000 in
theorem sameN {kids : Fo} (hall : kids.All TOK) : TOK kids := by
  intro g k i b k' i' b' t t' l l' n c n' c' S w hF hG hS
  have hnl := hF.len
  have hnl' := hG.len
  have hA := (Blk.new w #[.int .i64 k, .int .i64 i, .int .u64 b, .string ⟨t.toArray⟩, .slice l n c] 25).alloc (.cells #[.int .i64 k', .int .i64 i', .int .u64 b', .string ⟨t'.toArray⟩, .slice l' n' c'] 25)
  have hA' := Blk.new (w.alloc (.cells #[.int .i64 k, .int .i64 i, .int .u64 b, .string ⟨t.toArray⟩, .slice l n c] 25)) #[.int .i64 k', .int .i64 i', .int .u64 b', .string ⟨t'.toArray⟩, .slice l' n' c'] 25
  have hs1 : (w.alloc (.cells #[.int .i64 k, .int .i64 i, .int .u64 b, .string ⟨t.toArray⟩, .slice l n c] 25)).heap.size = w.heap.size + 1 := by simp
  rw [hs1] at hA'
  have hB : Below w.heap.size w ((w.alloc (.cells #[.int .i64 k, .int .i64 i, .int .u64 b, .string ⟨t.toArray⟩, .slice l n c] 25)).alloc (.cells #[.int .i64 k', .int .i64 i', .int .u64 b', .string ⟨t'.toArray⟩, .slice l' n' c'] 25)) := ((Below.refl _ w).alloc (Nat.le_refl _) _).alloc (by simp) _
  have HC := Lib.hid (fun (wx : World) (hx : Below w.heap.size w wx) => efN hall (hF.same (w' := wx) (fun x _ hlt => hx.block x hlt) (fun x hx2 _ => hx2)) (hG.same (w' := wx) (fun x _ hlt => hx.block x hlt) (fun x hx2 _ => hx2)) (fun x hx2 => Nat.lt_of_lt_of_le (hS x hx2) hx.size))
  have hkk : kids.len = n ∧ g.len = n' := ⟨hnl, hnl'⟩
  clear hF hG hS hall hs1 hnl hnl'
  go_enter Tryz.func46, Tryz.ntmps46
  go_upto_region 1 with (fail)
  generalize (w.alloc (.cells #[.int .i64 k, .int .i64 i, .int .u64 b, .string ⟨t.toArray⟩, .slice l n c] 25)).alloc (.cells #[.int .i64 k', .int .i64 i', .int .u64 b', .string ⟨t'.toArray⟩, .slice l' n' c'] 25) = w1 at *
  have HC := Lib.hid (HC.out w1 hB)
  have HB := Lib.hid hB
  have b0 := hA.cell 0 rfl
  have b1 := hA.cell 1 rfl
  have b2 := hA.cell 2 rfl
  have b3 := hA.cell 3 rfl
  have b4 := hA.cell 4 rfl
  have d0 := hA'.cell 0 rfl
  have d1 := hA'.cell 1 rfl
  have d2 := hA'.cell 2 rfl
  have d3 := hA'.cell 3 rfl
  have d4 := hA'.cell 4 rfl
  have HKN := Lib.hid hkk
  clear hA hA' hB hkk
  cases h1 : (k == k')
  · have h1p := h1
    simp only [beq_eq_false_iff_ne, ne_eq] at h1p
    have H1P := Lib.hid h1p
    clear h1p
    go_wp2_with fail
    go_ret
    exact ⟨by simp [headM, H1P.out], HB.out⟩
  · have h1p := h1
    simp only [beq_iff_eq] at h1p
    have H1P := Lib.hid h1p
    clear h1p
    cases h2 : (i == i')
    · have h2p := h2
      simp only [beq_eq_false_iff_ne, ne_eq] at h2p
      have H2P := Lib.hid h2p
      clear h2p
      go_wp2_with fail
      go_ret
      exact ⟨by simp [headM, H1P.out, H2P.out], HB.out⟩
    · have h2p := h2
      simp only [beq_iff_eq] at h2p
      have H2P := Lib.hid h2p
      clear h2p
      cases h3 : (b == b')
      · have h3p := h3
        simp only [beq_eq_false_iff_ne, ne_eq] at h3p
        have H3P := Lib.hid h3p
        clear h3p
        go_wp2_with fail
        go_ret
        exact ⟨by simp [headM, H1P.out, H2P.out, H3P.out], HB.out⟩
      · have h3p := h3
        simp only [beq_iff_eq] at h3p
        have H3P := Lib.hid h3p
        clear h3p
        cases h4 : (t == t')
        · have h4p := h4
          simp only [beq_eq_false_iff_ne, ne_eq] at h4p
          have H4P := Lib.hid h4p
          clear h4p
          go_wp2_with fail
          go_ret
          exact ⟨by simp [headM, H1P.out, H2P.out, H3P.out, H4P.out], HB.out⟩
        · have h4p := h4
          simp only [beq_iff_eq] at h4p
          subst h4p
          clear h4
          have hsg : (headM k i b t n k' i' b' t n' && sameM kids g) = sameM kids g := by
            cases hs : sameM kids g
            · simp
            · have hkn := HKN.out; have := sameM_len kids g hs
              simp [headM, H1P.out, H2P.out, H3P.out]
              omega
          have HSG := Lib.hid hsg
          clear hsg
          go_wp2_with (go_at_call 82; (with_reducible refine HC.out.mono ?_); rintro e w2 ⟨rfl, hb2⟩)
          go_ret
          exact ⟨by rw [HSG.out]; rfl, HB.out.trans (hb2.mono HB.out.size)⟩
theorem sameAll : ∀ f : Fo, f.All TOK
  | .nil => trivial
  | .cons _ _ _ _ kids rest => ⟨sameN (sameAll kids), sameAll rest⟩
theorem sameG (kids : Fo) : TOK kids := sameN (sameAll kids)
end Go.Proofs.YtbldidiibkcelaaGreatDoor

