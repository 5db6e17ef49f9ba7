/-
  Join: what it comes to (plain), its boxes. Not a statement of the seat.
-/
import Derived.Test.YtbldidiibkcelaaGreatDoorECopy
import Derived.Test.YtbldidiibkcelaaGreatDoorEBack
namespace Go.Proofs.YtbldidiibkcelaaGreatDoor
open Go.RowKit

/-- without the ones that are none -/
def filt : Eo → Eo
  | .nil => .nil
  | .cons k i c t b cs ks rest => if k = 0 then filt rest else .cons k i c t b cs ks (filt rest)
theorem filt_app : ∀ (f g : Eo), filt (f.app g) = (filt f).app (filt g)
  | .nil, _ => rfl
  | .cons k i c t b cs ks rest, g => by
    rw [Eo.app, filt, filt, filt_app rest g]
    split
    · rfl
    · rfl
theorem filt_len : ∀ f : Eo, (filt f).len ≤ f.len
  | .nil => Nat.le_refl _
  | .cons k i c t b cs ks rest => by
    have := filt_len rest
    rw [filt, Eo.len]
    split
    · omega
    · rw [Eo.len]; omega
theorem filt_one {k i c : Int} {t : Bs} {b : Dt} {cs : List Int} {ks : Eo} (h : k ≠ 0) : filt (.cons k i c t b cs ks .nil) = .cons k i c t b cs ks .nil := by rw [filt, if_neg h]; rfl
theorem filt_none {i c : Int} {t : Bs} {b : Dt} {cs : List Int} {ks : Eo} : filt (.cons 0 i c t b cs ks .nil) = .nil := by rw [filt, if_pos rfl]; rfl
/-- what Join comes to -/
def jE (id : Int) (f : Eo) : Et := if (filt f).len = 0 then Et.zero else ⟨4, id, 0, [], Dt.zero, [], filt f⟩
/-- kinds are kinds -/
def rngK : Eo → Prop
  | .nil => True
  | .cons k _ _ _ _ _ _ rest => (0 ≤ k ∧ k ≤ 10) ∧ rngK rest
theorem rngK_app : ∀ (f : Eo) {g : Eo}, rngK (f.app g) → rngK g
  | .nil, _, h => h
  | .cons _ _ _ _ _ _ _ r, _, h => rngK_app r h.2
def jw (w : World) (id : Int) : World := ebox (zbox w) 4 id 0 [] Dt.zero none 0 0 none 0 0 none 0 0
theorem jw_facts (w : World) (id : Int) : (Blk (jw w id) w.heap.size Z11 ∧ Blk (jw w id) (w.heap.size + 1) (V11 4 id 0 [] Dt.zero none 0 0 none 0 0 none 0 0)) ∧ Below w.heap.size w (jw w id) ∧ (jw w id).heap.size = w.heap.size + 2 := by
  have h1 := zbox_blk w
  have hb := zbox_below w
  have e1 := zbox_size w
  unfold jw
  generalize zbox w = w1 at *
  have h2 := ebox_blk w1 4 id 0 [] Dt.zero none 0 0 none 0 0 none 0 0
  have hb2 := ebox_below w1 4 id 0 [] Dt.zero none 0 0 none 0 0 none 0 0
  have e2 := ebox_size w1 4 id 0 [] Dt.zero none 0 0 none 0 0 none 0 0
  rw [e1] at h2
  exact ⟨⟨h1.below hb2, h2⟩, hb.trans (hb2.mono hb.size), by omega⟩
/-- between two rounds -/
def JnRel (kids : Eo) (id : Int) (w3 : World) (q : Nat) (t10 : Value) (wr : World) : Prop :=
  ∃ (dn rest : Eo) (l : Option Addr) (cap : Nat) (vs : List Value), t10 = .int .i64 (dn.len : Nat) ∧ kids = dn.app rest ∧ (Row w3.heap.size wr 11 l (filt dn).len cap vs ∧ EAt (fun x => w3.heap.size ≤ x ∧ blockOf l ≠ some x) wr (filt dn) vs) ∧ Blk wr q (V11 4 id 0 [] Dt.zero none 0 0 none 0 0 l (filt dn).len cap) ∧ Kept (N1 q) w3 wr
theorem er_resj {fn : Func} {tmps : Array Value} {w1 : World} {v0 v1 v2 v3 v4 v5 v6 v7 v8 v9 v10 : Value} {b : Nat} (j : Tmp) (hr : fn.results = #[ResultVar.cell j 29]) (ht : tmps.getD j undef = .pointer (some ⟨b, 0, none⟩)) (h : Blk w1 b Z11) :
    (results fn tmps).run Tryz.prog (st11 w1 b v0 v1 v2 v3 v4 v5 v6 v7 v8 v9 v10) = .ok (.agg #[v0, v1, v2, v3, v4, v5, v6, v7, v8, v9, v10]) (st11 w1 b v0 v1 v2 v3 v4 v5 v6 v7 v8 v9 v10) := by
  have h' := st11_blk h v0 v1 v2 v3 v4 v5 v6 v7 v8 v9 v10
  have ht' : tmps[j]?.getD undef = .pointer (some ⟨b, 0, none⟩) := by simpa using ht
  have c0 := h'.cell 0 rfl; have c1 := h'.cell 1 rfl; have c2 := h'.cell 2 rfl; have c3 := h'.cell 3 rfl; have c4 := h'.cell 4 rfl; have c5 := h'.cell 5 rfl; have c6 := h'.cell 6 rfl; have c7 := h'.cell 7 rfl; have c8 := h'.cell 8 rfl; have c9 := h'.cell 9 rfl; have c10 := h'.cell 10 rfl
  simp [results, hr, go_sem, ht', c0, c1, c2, c3, c4, c5, c6, c7, c8, c9, c10]
theorem ce_finj {fn : Func} {w w4 wr : World} {kids : Eo} {k i c : Int} {t : Bs} {b : Dt} {cs : List Int} {bl : Option Addr} {bn bc : Nat} {cl : Option Addr} {cn cc : Nat} {l : Option Addr} {n cap z q : Nat} {vs : List Value} {tmps : Array Value} (j : Tmp) (hr : fn.results = #[ResultVar.cell j 29]) (ht : tmps.getD j undef = .pointer (some ⟨z, 0, none⟩))
    (hz : w.heap.size ≤ z ∧ z < w4.heap.size) (hBW : Below w.heap.size w w4) (hZ : Blk wr z Z11) (hF : FoAt (fun x => w4.heap.size ≤ x) wr b.l bl bn bc) (hC : Row w4.heap.size wr 1 cl cn cc (I8 cs)) (hR : Row w4.heap.size wr 11 l n cap vs ∧ EAt (fun x => w4.heap.size ≤ x ∧ blockOf l ≠ some x) wr kids vs) (hK : Kept (N1 q) w4 wr) (hq : w.heap.size ≤ q) :
    bodyPost Tryz.prog fn (CLE k i c t b cs kids w) Exit.ret { tmps := tmps, defers := [] } (st11 wr z (.int .i64 k) (.int .i64 i) (.int .i64 c) (.string ⟨t.toArray⟩) (.int .i64 b.k) (.int .i64 b.i) (.int .u64 b.b) (.string ⟨b.t.toArray⟩) (.slice bl bn bc) (.slice cl cn cc) (.slice l n cap)) := by
  refine bodyPost_ret (er_resj j hr ht hZ) rfl ?_
  have h1 := st11_kept (w := wr) (b := z) (.int .i64 k) (.int .i64 i) (.int .i64 c) (.string ⟨t.toArray⟩) (.int .i64 b.k) (.int .i64 b.i) (.int .u64 b.b) (.string ⟨b.t.toArray⟩) (.slice bl bn bc) (.slice cl cn cc) (.slice l n cap)
  generalize st11 wr z (.int .i64 k) (.int .i64 i) (.int .i64 c) (.string ⟨t.toArray⟩) (.int .i64 b.k) (.int .i64 b.i) (.int .u64 b.b) (.string ⟨b.t.toArray⟩) (.slice bl bn bc) (.slice cl cn cc) (.slice l n cap) = wz at *
  have hs := hBW.size
  have hs2 := hK.size
  refine ⟨bl, bn, bc, cl, cn, cc, l, n, cap, vs, rfl, hF.same (fun x hx hl => h1.block x hl (fun e => ?_)) (fun x hx _ => ?_), (hC.keep h1 (fun x hx e => ?_)).mono (by omega), ⟨(hR.1.keep h1 (fun x hx e => ?_)).mono (by omega), EAt.same _ hR.2 (fun x hx hlt => h1.block x hlt (fun e => ?_)) (fun x hx _ => ⟨?_, hx.2⟩)⟩,
    hBW.trans ((hK.below hs (fun x hx e => by unfold N1 at e; omega)).trans (h1.below (by omega) (fun x hx e => by unfold N1 at e; omega)))⟩
  · have h9 : w4.heap.size ≤ x := hx
    unfold N1 at e; omega
  · have h9 : w4.heap.size ≤ x := hx
    omega
  · have := (hC.lt x hx).1; unfold N1 at e; omega
  · have := (hR.1.lt x hx).1; unfold N1 at e; omega
  · have := hx.1; unfold N1 at e; omega
  · have := hx.1; omega
end Go.Proofs.YtbldidiibkcelaaGreatDoor
