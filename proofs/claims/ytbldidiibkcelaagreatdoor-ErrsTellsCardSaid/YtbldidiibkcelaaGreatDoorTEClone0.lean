/-
  clone of an error, its parts: slices.Clone of the codes (walk), a row of errors that grows. Not a statement of the seat.
-/
import Derived.Test.YtbldidiibkcelaaGreatDoorTHeldD
import Derived.Test.YtbldidiibkcelaaGreatDoorTClone
import Derived.Test.YtbldidiibkcelaaGreatDoorTEMade
namespace Go.Proofs.YtbldidiibkcelaaGreatDoor
open Go.RowKit

theorem errInfo : (Tryz.prog.info? 29).map (fun i => (i.zero, i.size, i.bytes)) = some (some (.agg #[.int .i64 0, .int .i64 0, .int .i64 0, .string ⟨#[]⟩, .int .i64 0, .int .i64 0, .int .u64 0, .string ⟨#[]⟩, .slice none 0 0, .slice none 0 0, .slice none 0 0]), 11, 152) := by kernel_rfl
theorem codeInfo : (Tryz.prog.info? 2).map (fun i => (i.zero, i.size, i.bytes)) = some (some (.int .i64 0), 1, 8) := by kernel_rfl
theorem Rd.noneLen {w : World} {n c : Nat} {xs : List Value} (h : Rd w 1 none n c xs) : n = 0 := by
  rcases h.2.2.2 with ⟨h1, _⟩ | ⟨b, off, h, _⟩
  · exact h1
  · cases h
set_option maxRecDepth 100000 in
set_option maxHeartbeats 4000000 in
/-- slices.Clone of codes -/
theorem clone89 {cs : List Int} {a : Option Addr} {n c : Nat} {w : World} (h : Rd w 1 a n c (I8 cs)) (hn : n ≤ 100000) :
    Calls Tryz.prog 89 #[.slice a n c] w (fun e w' => ∃ a' c', e = .returned (.slice a' n c') ∧ Row w.heap.size w' 1 a' n c' (I8 cs) ∧ Below w.heap.size w w') := by
  obtain ⟨i0, hi, hy0, hy1, hy2⟩ := info_parts codeInfo
  cases a with
  | none =>
    obtain rfl := h.noneLen
    have hl : cs = [] := by have := h.1; rw [I8_length] at this; exact List.length_eq_zero_iff.1 (by omega)
    subst hl
    have he : ∀ w : World, (binOp .eql 26 (.slice none 0 c) (.slice none 0 0)).run Tryz.prog w = .ok (.bool true) w := fun _ => rfl
    clear h
    go_enter Tryz.func89, Tryz.ntmps89
    go_wp2_with fail
    go_ret
    exact ⟨none, 0, rfl, Row.nil _ _ _, Below.refl _ _⟩
  | some a0 =>
    have he : ∀ w : World, (binOp .eql 26 (.slice (some a0) n c) (.slice none 0 0)).run Tryz.prog w = .ok (.bool false) w := fun _ => rfl
    have HR := Lib.hid (show Row w.heap.size (w.alloc (.cells #[] 2)) 1 (some ⟨w.heap.size, 0, none⟩) 0 0 [] from ⟨rfl, Nat.le_refl _, Nat.zero_le _, .inr ⟨_, _, rfl, Nat.le_refl _, by simp, fun j hj => absurd hj (by simp), fun j hj => absurd hj (by simp)⟩⟩)
    have hb : Below w.heap.size w (w.alloc (.cells #[] 2)) := (Below.refl _ _).alloc (Nat.le_refl _) _
    have HS := Lib.hid (Src.ofRd (P := Tryz.prog) (w := w.alloc (.cells #[] 2)) (tx := 26) Tryz.underlying26 (h.same0 (w' := w.alloc (.cells #[] 2)) (fun x _ _ hlt => hb.block x hlt)) (fun u hu => by
      simp only [I8, List.mem_map] at hu
      obtain ⟨x, _, rfl⟩ := hu
      rfl))
    clear h hb
    go_enter Tryz.func89, Tryz.ntmps89
    go_wp2_with (at_builtin; refine wpList_append_row rfl _ _ 26 26 rfl 2 i0 (.int .i64 0) 1 8 Tryz.underlying26 hi hy0 hy1 hy2 rfl rfl HR.out n _ HS.out (by unfold maxLen; omega) (by omega) (by simp) ?_; intro a4 c4 w4 hrow hgr hbk; have HR4 := Lib.hid hrow; have HG4 := Lib.hid hgr; clear hrow hgr hbk)
    go_ret
    rw [show 0 + n = n from by omega, List.nil_append] at HR4
    refine ⟨a4, c4, by simp, HR4.out, ?_⟩
    exact Kept.below (((Kept.refl (fun x => w.heap.size ≤ x) w).alloc _).grown HG4.out (fun b h hb => by cases h; exact Nat.le_refl _)) (Nat.le_refl _) (fun b hb e => by omega)
/-- sizes that a copy minds -/
def okC : Eo → Prop
  | .nil => True
  | .cons _ _ _ _ b cs kids rest => sizeF b.l ≤ 100000 ∧ cs.length ≤ 100000 ∧ kids.len ≤ 100000 ∧ okC kids ∧ okC rest
theorem okC_app : ∀ (f : Eo) {g : Eo}, okC (f.app g) → okC g
  | .nil, _, h => h
  | .cons _ _ _ _ _ _ _ r, _, h => okC_app r h.2.2.2.2
/-- what a copy of an error comes to: its rows are its own, the codes and the row on top may be written -/
def CLE (k i c : Int) (t : Bs) (b : Dt) (cs : List Int) (kids : Eo) (w : World) (r : Ending) (w' : World) : Prop :=
  ∃ bl bn bc cl cn cc l n cap vs, r = .returned (vE k i c t b bl bn bc cl cn cc l n cap) ∧ FoAt (fun x => w.heap.size ≤ x) w' b.l bl bn bc ∧ Row w.heap.size w' 1 cl cn cc (I8 cs) ∧
    (Row w.heap.size w' 11 l n cap vs ∧ EAt (fun x => w.heap.size ≤ x ∧ blockOf l ≠ some x) w' kids vs) ∧ Below w.heap.size w w'
theorem CLE.er {k i c : Int} {t : Bs} {b : Dt} {cs : List Int} {kids : Eo} {w w' : World} {r : Ending} (h : CLE k i c t b cs kids w r w') :
    ∃ bl bn bc cl cn cc l n cap, r = .returned (vE k i c t b bl bn bc cl cn cc l n cap) ∧ ErAt (fun x => w.heap.size ≤ x) w' ⟨k, i, c, t, b, cs, kids⟩ bl bn bc cl cn cc l n cap ∧ Below w.heap.size w w' := by
  obtain ⟨bl, bn, bc, cl, cn, cc, l, n, cap, vs, rfl, h1, h2, ⟨h3, h4⟩, h5⟩ := h
  exact ⟨bl, bn, bc, cl, cn, cc, l, n, cap, rfl, ⟨h1, ⟨h2.rd, fun x _ hx => (h2.lt x hx).1⟩, vs, ⟨h3.rd, fun x _ hx => (h3.lt x hx).1⟩, EAt.same _ h4 (fun _ _ _ => rfl) (fun x hx _ => hx.1)⟩, h5⟩
/-- a copied row of errors that has grown by one -/
theorem ce_next {B n cap : Nat} {wr wv w4 : World} {l a4 : Option Addr} {vs : List Value} {acc : Eo} {k i c : Int} {t : Bs} {b : Dt} {cs : List Int} {kids : Eo} {bl : Option Addr} {bn bc : Nat} {cl : Option Addr} {cn cc : Nat} {lv : Option Addr} {nv cv : Nat} {ob : Obj}
    (hRow : Row B wr 11 l n cap vs) (hAt : EAt (fun x => B ≤ x ∧ blockOf l ≠ some x) wr acc vs) (hB : B ≤ wr.heap.size) (hE : ErAt (fun x => wr.heap.size ≤ x) wv ⟨k, i, c, t, b, cs, kids⟩ bl bn bc cl cn cc lv nv cv) (hKv : Below wr.heap.size wr wv)
    (hgr : (wv.alloc ob).grownBy w4 (blockOf l)) (hbk : blockOf a4 = blockOf l ∨ blockOf a4 = some (wv.alloc ob).heap.size) :
    EAt (fun x => B ≤ x ∧ blockOf a4 ≠ some x) w4 (acc.app (.cons k i c t b cs kids .nil)) (vs ++ V11 k i c t b bl bn bc cl cn cc lv nv cv) := by
  have hl : ∀ x, blockOf l = some x → B ≤ x ∧ x < wr.heap.size := fun x e => hRow.lt x e
  have hs2 := hKv.size
  have hsz : (wv.alloc ob).heap.size = wv.heap.size + 1 := by simp
  have hall : Below wv.heap.size wv (wv.alloc ob) := (Below.refl _ _).alloc (Nat.le_refl _) _
  have h5 : ∀ x, x < wv.heap.size → blockOf l ≠ some x → w4.heap[x]? = wv.heap[x]? := fun x hx hne => by
    rw [hgr.block x (by omega) (fun e => hne e.symm), hall.block x hx]
  have hS : ∀ x, x < wv.heap.size → blockOf l ≠ some x → blockOf a4 ≠ some x := fun x hx hne e => by
    rcases hbk with h | h
    · exact hne (h ▸ e)
    · rw [h] at e; cases e; omega
  refine EAt.app acc ?_ ?_
  · refine EAt.same acc hAt (fun x hx hlt => ?_) (fun x hx hlt => ⟨hx.1, hS x (by omega) hx.2⟩)
    rw [h5 x (by omega) hx.2]
    exact hKv.block x hlt
  · obtain ⟨h1, h2, ks, h3, h4⟩ := hE.same (S' := fun x => B ≤ x ∧ blockOf a4 ≠ some x) (w' := w4) (fun x h hx => h5 x hx (fun e => by have := (hl x e).2; omega)) (fun x hx hlt => ⟨by omega, hS x hlt (fun e => by have := (hl x e).2; omega)⟩)
    exact ⟨bl, bn, bc, cl, cn, cc, lv, nv, cv, ks, [], by simp, h1, h2, h3, h4, rfl⟩
end Go.Proofs.YtbldidiibkcelaaGreatDoor

