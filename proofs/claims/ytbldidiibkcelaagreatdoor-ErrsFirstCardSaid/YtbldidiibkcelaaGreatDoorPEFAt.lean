/-
  The errors of a tree by their ways (plain); at (walk). Not a statement of the seat.
-/
import Derived.Test.YtbldidiibkcelaaGreatDoorPEWays
import Derived.Test.YtbldidiibkcelaaGreatDoorPERAs
namespace Go.Proofs.YtbldidiibkcelaaGreatDoor
open Go.RowKit

/-- a row's element by its number -/
def getN : Eo → Nat → Option Et
  | .nil, _ => none
  | .cons k i c t b cs ks _, 0 => some ⟨k, i, c, t, b, cs, ks⟩
  | .cons _ _ _ _ _ _ _ rest, j + 1 => getN rest j
/-- the error at the end of a way -/
def atE : Et → List Int → Option Et
  | e, [] => some e
  | e, k :: ks => if k < 0 then none else match getN e.l k.toNat with
    | some x => atE x ks
    | none => none
theorem getN_app : ∀ (f : Eo) {j : Nat} {x : Et}, getN f j = some x → ∃ dn rest : Eo, f = dn.app (.cons x.k x.i x.c x.t x.b x.cs x.l rest) ∧ dn.len = j
  | .nil, j, _, h => by cases j <;> cases h
  | .cons k i c t b cs ks rest, 0, x, h => by
    cases h
    exact ⟨.nil, rest, rfl, rfl⟩
  | .cons k i c t b cs ks rest, j + 1, x, h => by
    obtain ⟨dn, r2, h1, h2⟩ := getN_app rest (j := j) h
    exact ⟨.cons k i c t b cs ks dn, r2, by rw [h1]; rfl, by rw [Eo.len, h2]⟩
/-- all ways with what stands at their ends -/
def wnL : Eo → Nat → List (List Int × Et)
  | .nil, _ => []
  | .cons k i c t b cs ks rest, j => (if k = 0 then [] else ([], ⟨k, i, c, t, b, cs, ks⟩) :: wnL ks 0).map (fun p => ((j : Int) :: p.1, p.2)) ++ wnL rest (j + 1)
def wn1 (e : Et) : List (List Int × Et) := if e.k = 0 then [] else ([], e) :: wnL e.l 0
theorem wnL_cons (k i c : Int) (t : Bs) (b : Dt) (cs : List Int) (ks rest : Eo) (j : Nat) : wnL (.cons k i c t b cs ks rest) j = (wn1 ⟨k, i, c, t, b, cs, ks⟩).map (fun p => ((j : Int) :: p.1, p.2)) ++ wnL rest (j + 1) := by rw [wnL]; rfl
theorem wnL_fst : ∀ (f : Eo) (j : Nat), (wnL f j).map (·.1) = waysL f j
  | .nil, _ => rfl
  | .cons k i c t b cs ks rest, j => by
    rw [wnL, waysL, List.map_append, wnL_fst rest (j + 1), List.map_map]
    congr 1
    by_cases h : k = 0
    · rw [if_pos h, if_pos h]; rfl
    · rw [if_neg h, if_neg h, List.map_cons, List.map_cons, ← wnL_fst ks 0, List.map_map]
      rfl
theorem wn1_fst (e : Et) : (wn1 e).map (·.1) = ways1 e.k e.l := by
  unfold wn1 ways1
  by_cases h : e.k = 0
  · rw [if_pos h, if_pos h]; rfl
  · rw [if_neg h, if_neg h, List.map_cons, wnL_fst]
theorem findSome_map {α β γ : Type} (f : β → Option γ) (g : α → β) : ∀ l : List α, (l.map g).findSome? f = l.findSome? (fun x => f (g x))
  | [] => rfl
  | x :: l => by
    rw [List.map_cons, List.findSome?_cons, List.findSome?_cons, findSome_map f g l]
/-- does As find it -/
def hitA (m : Int) (x : Et) : Option Et := if m ≤ 0 ∨ 11 ≤ m then none else if ktM x.k = ktM m then some x else if x.k = 9 ∧ m = 1 then some ⟨1, 0, x.c, x.t, Dt.zero, [], .nil⟩ else none
def hitFc (m : Int) (x : Et) : Option Et := if hasK x.k m = true then some x else none
theorem asL_off' {m : Int} (h : m ≤ 0 ∨ 11 ≤ m) : ∀ f, asL m f = none
  | .nil => rfl
  | .cons k i c t b cs ks rest => by rw [asL, asL_off' h rest, if_pos (by omega)]
theorem asL_find (m : Int) : ∀ (f : Eo) (j : Nat), asL m f = (wnL f j).findSome? (fun p => hitA m p.2)
  | .nil, _ => rfl
  | .cons k i c t b cs ks rest, j => by
    rw [asL_cons, wnL_cons, List.findSome?_append, findSome_map, ← asL_find m rest (j + 1)]
    have h1 : as1 m ⟨k, i, c, t, b, cs, ks⟩ = (wn1 ⟨k, i, c, t, b, cs, ks⟩).findSome? (fun p => hitA m p.2) := by
      unfold as1 wn1
      dsimp only
      by_cases h0 : k = 0
      · rw [if_pos (.inl h0), if_pos h0]; rfl
      · rw [if_neg h0, List.findSome?_cons, ← asL_find m ks 0]
        unfold hitA
        dsimp only
        by_cases hm : m ≤ 0 ∨ 11 ≤ m
        · rw [if_pos (.inr hm), if_pos hm, asL_off' hm ks]
        · rw [if_neg (by rintro (h | h); exact h0 h; exact hm h), if_neg hm]
          by_cases h2 : ktM k = ktM m
          · rw [if_pos h2, if_pos h2]
          · rw [if_neg h2, if_neg h2]
            by_cases h3 : k = 9 ∧ m = 1
            · rw [if_pos h3, if_pos h3]
            · rw [if_neg h3, if_neg h3]
    rw [h1]
    cases (wn1 ⟨k, i, c, t, b, cs, ks⟩).findSome? (fun p => hitA m p.2) <;> rfl
theorem as1_find (m : Int) (e : Et) : as1 m e = (wn1 e).findSome? (fun p => hitA m p.2) := by
  have h := asL_find m (.cons e.k e.i e.c e.t e.b e.cs e.l .nil) 0
  rw [asL_cons, wnL_cons, List.findSome?_append, findSome_map] at h
  have e1 : asL m .nil = none := rfl
  have e2 : (wnL .nil (0 + 1)).findSome? (fun p => hitA m p.2) = none := rfl
  rw [e1, e2, Option.or_none] at h
  rw [← h]
  cases as1 m ⟨e.k, e.i, e.c, e.t, e.b, e.cs, e.l⟩ <;> rfl
theorem fndL_find (m : Int) : ∀ (f : Eo) (j : Nat), fndL m f = (wnL f j).findSome? (fun p => hitFc m p.2)
  | .nil, _ => rfl
  | .cons k i c t b cs ks rest, j => by
    rw [fndL_cons, wnL_cons, List.findSome?_append, findSome_map, ← fndL_find m rest (j + 1)]
    have h1 : fnd1 m ⟨k, i, c, t, b, cs, ks⟩ = (wn1 ⟨k, i, c, t, b, cs, ks⟩).findSome? (fun p => hitFc m p.2) := by
      unfold fnd1 wn1
      dsimp only
      by_cases h0 : k = 0
      · rw [if_pos h0, if_pos h0]; rfl
      · rw [if_neg h0, if_neg h0, List.findSome?_cons, ← fndL_find m ks 0]
        unfold hitFc
        dsimp only
        cases hasK k m <;> rfl
    rw [h1]
    cases (wn1 ⟨k, i, c, t, b, cs, ks⟩).findSome? (fun p => hitFc m p.2) <;> rfl
theorem fnd1_find (m : Int) (e : Et) : fnd1 m e = (wn1 e).findSome? (fun p => hitFc m p.2) := by
  have h := fndL_find m (.cons e.k e.i e.c e.t e.b e.cs e.l .nil) 0
  rw [fndL_cons, wnL_cons, List.findSome?_append, findSome_map] at h
  have e1 : fndL m .nil = none := rfl
  have e2 : (wnL .nil (0 + 1)).findSome? (fun p => hitFc m p.2) = none := rfl
  rw [e1, e2, Option.or_none] at h
  rw [← h]
  cases fnd1 m ⟨e.k, e.i, e.c, e.t, e.b, e.cs, e.l⟩ <;> rfl
/-- what stands at a way's end is reached by the way -/
theorem wnL_at : ∀ (f : Eo) (j : Nat) (p : List Int × Et), p ∈ wnL f j → ∃ q r y, p.1 = ((j + q : Nat) : Int) :: r ∧ getN f q = some y ∧ atE y r = some p.2 ∧ p.2.k ≠ 0
  | .nil, _, _, h => by cases h
  | .cons k i c t b cs ks rest, j, p, h => by
    rw [wnL, List.mem_append, List.mem_map] at h
    rcases h with ⟨p', h1, rfl⟩ | h
    · split at h1
      · cases h1
      · rename_i h0
        rcases List.mem_cons.1 h1 with rfl | h1
        · exact ⟨0, [], ⟨k, i, c, t, b, cs, ks⟩, rfl, rfl, rfl, h0⟩
        · obtain ⟨q, r, y, e1, e2, e3, e4⟩ := wnL_at ks 0 p' h1
          refine ⟨0, p'.1, ⟨k, i, c, t, b, cs, ks⟩, rfl, rfl, ?_, e4⟩
          rw [e1, atE, if_neg (by omega), show (((0 + q : Nat) : Int)).toNat = q by omega]
          show (match getN ks q with | some x => atE x r | none => none) = _
          rw [e2]
          exact e3
    · obtain ⟨q, r, y, e1, e2, e3, e4⟩ := wnL_at rest (j + 1) p h
      exact ⟨q + 1, r, y, by rw [e1]; congr 2; omega, e2, e3, e4⟩
theorem wn1_at {e : Et} {p : List Int × Et} (h : p ∈ wn1 e) : atE e p.1 = some p.2 ∧ p.2.k ≠ 0 := by
  unfold wn1 at h
  split at h
  · cases h
  · rename_i h0
    rcases List.mem_cons.1 h with rfl | h
    · exact ⟨rfl, h0⟩
    · obtain ⟨q, r, y, e1, e2, e3, e4⟩ := wnL_at e.l 0 p h
      refine ⟨?_, e4⟩
      rw [e1, atE, if_neg (by omega), show (((0 + q : Nat) : Int)).toNat = q by omega, e2]
      exact e3
theorem findSome_take {α β : Type} (f : α → Option β) (l : List α) {j : Nat} {x : α} (h : l[j]? = some x) : (l.take (j + 1)).findSome? f = ((l.take j).findSome? f).or (f x) := by
  rw [List.take_add_one, h, List.findSome?_append]
  congr 1
  show [x].findSome? f = f x
  rw [List.findSome?_cons]
  cases f x <;> rfl
theorem findSome_later {α β : Type} (f : α → Option β) (l : List α) {j : Nat} {y : β} (h : (l.take j).findSome? f = some y) : l.findSome? f = some y := by
  rw [← List.take_append_drop j l, List.findSome?_append, h]
  rfl
def AtRel (S : Nat → Prop) (pb : Nat) (pl : List Int) (x : Et) (w1 : World) (t9 : Value) (wr : World) : Prop :=
  ∃ (i : Nat) (y : Et) (bl : Option Addr) (bn bc : Nat) (cl : Option Addr) (cn cc : Nat) (l : Option Addr) (n cap : Nat), t9 = .int .i64 (i : Nat) ∧ i ≤ pl.length ∧ Blk wr pb (V11 y.k y.i y.c y.t y.b bl bn bc cl cn cc l n cap) ∧ ErAt S wr y bl bn bc cl cn cc l n cap ∧ atE y (pl.drop i) = some x ∧ Kept (N1 pb) w1 wr
theorem atE_next {y x : Et} {q : Int} {ks : List Int} (h : atE y (q :: ks) = some x) : ∃ (dn rest : Eo) (y2 : Et), q = (dn.len : Int) ∧ y.l = dn.app (.cons y2.k y2.i y2.c y2.t y2.b y2.cs y2.l rest) ∧ atE y2 ks = some x := by
  rw [atE] at h
  split at h
  · cases h
  · rename_i hq
    split at h
    · rename_i y2 hg
      obtain ⟨dn, rest, h1, h2⟩ := getN_app _ hg
      exact ⟨dn, rest, y2, by omega, h1, h⟩
    · cases h
def ATP (S : Nat → Prop) (x : Et) (w : World) (r : Ending) (w' : World) : Prop := ∃ bl bn bc cl cn cc l n cap, r = .returned (vE x.k x.i x.c x.t x.b bl bn bc cl cn cc l n cap) ∧ ErAt S w' x bl bn bc cl cn cc l n cap ∧ Below w.heap.size w w'
theorem atp_fin {fn : Func} {tmps : Array Value} {S : Nat → Prop} {x : Et} {w wr : World} {z : Nat} {bl : Option Addr} {bn bc : Nat} {cl : Option Addr} {cn cc : Nat} {l : Option Addr} {n cap : Nat} (hr : fn.results = #[ResultVar.cell 4 29]) (ht : tmps.getD 4 undef = .pointer (some ⟨z, 0, none⟩)) (h : Blk wr z Z11) (hz : w.heap.size ≤ z) (hE : ErAt S wr x bl bn bc cl cn cc l n cap) (hS : ∀ q, S q → q < w.heap.size) (hB : Below w.heap.size w wr) :
    bodyPost Tryz.prog fn (ATP S x w) Exit.ret { tmps := tmps, defers := [] } (st11 wr z (.int .i64 x.k) (.int .i64 x.i) (.int .i64 x.c) (.string ⟨x.t.toArray⟩) (.int .i64 x.b.k) (.int .i64 x.b.i) (.int .u64 x.b.b) (.string ⟨x.b.t.toArray⟩) (.slice bl bn bc) (.slice cl cn cc) (.slice l n cap)) := by
  have hk := st11_kept (w := wr) (b := z) (.int .i64 x.k) (.int .i64 x.i) (.int .i64 x.c) (.string ⟨x.t.toArray⟩) (.int .i64 x.b.k) (.int .i64 x.b.i) (.int .u64 x.b.b) (.string ⟨x.b.t.toArray⟩) (.slice bl bn bc) (.slice cl cn cc) (.slice l n cap)
  have h' := st11_blk h (.int .i64 x.k) (.int .i64 x.i) (.int .i64 x.c) (.string ⟨x.t.toArray⟩) (.int .i64 x.b.k) (.int .i64 x.b.i) (.int .u64 x.b.b) (.string ⟨x.b.t.toArray⟩) (.slice bl bn bc) (.slice cl cn cc) (.slice l n cap)
  have ht' : tmps[4]?.getD undef = .pointer (some ⟨z, 0, none⟩) := by simpa using ht
  have c0 := h'.cell 0 rfl; have c1 := h'.cell 1 rfl; have c2 := h'.cell 2 rfl; have c3 := h'.cell 3 rfl; have c4 := h'.cell 4 rfl; have c5 := h'.cell 5 rfl; have c6 := h'.cell 6 rfl; have c7 := h'.cell 7 rfl; have c8 := h'.cell 8 rfl; have c9 := h'.cell 9 rfl; have c10 := h'.cell 10 rfl
  refine bodyPost_ret (v := vE x.k x.i x.c x.t x.b bl bn bc cl cn cc l n cap) ?_ rfl ⟨bl, bn, bc, cl, cn, cc, l, n, cap, rfl, hE.same (fun q hq hl => hk.block q hl (fun e => by have := hS q hq; unfold N1 at e; omega)) (fun q hq _ => hq), hB.trans (hk.below hB.size (fun q hq e => by unfold N1 at e; omega))⟩
  unfold vE
  simp [results, hr, go_sem, ht', c0, c1, c2, c3, c4, c5, c6, c7, c8, c9, c10]
set_option maxRecDepth 100000 in
set_option maxHeartbeats 16000000 in
theorem at37 {S : Nat → Prop} {e x : Et} {bl : Option Addr} {bn bc : Nat} {cl : Option Addr} {cn cc : Nat} {l : Option Addr} {n cap : Nat} {a : Option Addr} {nw cw : Nat} {pl : List Int} {w : World} (hE : ErAt S w e bl bn bc cl cn cc l n cap) (hS : ∀ q, S q → q < w.heap.size) (hW : Rd w 1 a nw cw (I8 pl)) (hat : atE e pl = some x) :
    Calls Tryz.prog 37 #[vE e.k e.i e.c e.t e.b bl bn bc cl cn cc l n cap, .slice a nw cw] w (ATP S x w) := by
  obtain ⟨⟨hP, hZ⟩, hB, hsz⟩ := clw2_facts w e.k e.i e.c e.t e.b bl bn bc cl cn cc l n cap
  have hn : pl.length = nw := by have := hW.len; rw [Nat.mul_one] at this; rw [← this, I8, List.length_map]
  have hnm : nw ≤ 9223372036854775807 := by have h1 := hW.le; have h2 := hW.max; unfold maxLen at h2; omega
  have hE1 := hE.same (w' := clw2 w e.k e.i e.c e.t e.b bl bn bc cl cn cc l n cap) (fun q _ hl => hB.block q hl) (fun q hq _ => hq)
  have hW1 := hW.below hB
  have hltb : ∀ q, 0 < nw → blockOf a = some q → q < w.heap.size := fun q h0 hq => by
    obtain ⟨b, off, rfl, hb, _⟩ := hW.at1 (k := 0) h0
    cases hq
    exact hb
  unfold vE
  go_enter Tryz.func37, Tryz.ntmps37
  go_upto_region 1 with (fail)
  change Code.wp _ _ _ _ (clw2 w e.k e.i e.c e.t e.b bl bn bc cl cn cc l n cap)
  generalize clw2 w e.k e.i e.c e.t e.b bl bn bc cl cn cc l n cap = w1 at *
  obtain ⟨z, hz⟩ : ∃ z, z = w.heap.size + 1 := ⟨_, rfl⟩
  obtain ⟨p, hp⟩ : ∃ q, q = w.heap.size := ⟨_, rfl⟩
  rw [← hp] at hP
  rw [← hz] at hZ
  rw [← hz, ← hp]
  have HB := Lib.hid hB
  have HLT := Lib.hid (show w.heap.size = p ∧ p < z ∧ w.heap.size ≤ z ∧ z < w1.heap.size from by omega)
  have H0 := Lib.hid (show AtRel S p pl x w1 (.int .i64 0) w1 from ⟨0, e, bl, bn, bc, cl, cn, cc, l, n, cap, rfl, Nat.zero_le _, hP, hE1, hat, Kept.refl _ _⟩)
  have HS := Lib.hid (show ∀ q, S q → q < p from by rw [hp]; exact hS)
  have HW := Lib.hid (And.intro hW1 hltb)
  have HZ := Lib.hid hZ
  have HN := Lib.hid (And.intro hn hnm)
  clear hE hS hW hat hP hZ hB hsz hn hE1 hW1 hltb hp hz
  go_wp2_with fail
  go_loopw [9] (fun t9 wr => AtRel S p pl x w1 t9 wr) (fun t9 _ => nw - (intOf t9).toNat)
  case atStart => exact H0.out
  case round =>
    clear H0
    obtain ⟨i, y, bl, bn, bc, cl, cn, cc, l, n, cap, rfl, hi, hP, hEy, hat, hK⟩ := hrel
    have hlen := HN.out.1
    have hZr := HZ.out.keep hK (fun e => by have := HLT.out; unfold N1 at e; omega)
    have hBr : Below w.heap.size w wr := HB.out.trans (hK.below HB.out.size (fun q hq e => by have := HLT.out; unfold N1 at e; omega))
    by_cases hin : i < nw
    · have hj : (i : Int) < (nw : Int) := by omega
      obtain ⟨q, ks, hdrop⟩ : ∃ q ks, pl.drop i = q :: ks := by
        cases hd : pl.drop i with
        | nil => have := congrArg List.length hd; rw [List.length_drop] at this; simp at this; omega
        | cons q ks => exact ⟨q, ks, rfl⟩
      have hks : pl.drop (i + 1) = ks := by rw [← List.drop_drop, hdrop]; rfl
      have hget : pl[i]? = some q := by
        have h := congrArg (fun l => l[0]?) hdrop
        simpa [List.getElem?_drop] using h
      rw [hdrop] at hat
      obtain ⟨dn, rest, y2, rfl, hyl, hat2⟩ := atE_next hat
      obtain ⟨ab, aoff, rfl, hab, hcell⟩ := HW.out.1.at1 (k := i) hin
      have hcell2 : wr.cell? ⟨ab, aoff + i, none⟩ = some (.int .i64 (dn.len : Int)) := by
        have hne : ¬ N1 p ab := fun e => by have := HW.out.2 ab (by omega) rfl; have := HLT.out; unfold N1 at e; omega
        rw [World.cell?_of_block (a := ⟨ab, aoff + i, none⟩) (hK.block ab hab hne), hcell, I8, List.getElem?_map, hget]
        rfl
      have hEo := hEy.2.2
      rw [hyl] at hEo
      obtain ⟨bb, off, bl2, bn2, bc2, cl2, cn2, cc2, l2, n2, cap2, rfl, hE2, he, hnx, hjn⟩ := EoAt.elem hEo
      have e0 := he 0 (by omega)
      have e1 := he 1 (by omega)
      have e2 := he 2 (by omega)
      have e3 := he 3 (by omega)
      have e4 := he 4 (by omega)
      have e5 := he 5 (by omega)
      have e6 := he 6 (by omega)
      have e7 := he 7 (by omega)
      have e8 := he 8 (by omega)
      have e9 := he 9 (by omega)
      have e10 := he 10 (by omega)
      simp only [V11, List.getElem?_cons_zero, List.getElem?_cons_succ, Nat.add_zero] at e0 e1 e2 e3 e4 e5 e6 e7 e8 e9 e10
      have hnlt : (dn.len : Int) < (n : Int) := by omega
      have hge : ¬ ((dn.len : Int) < 0) := by omega
      have x10 := hP.cell 10 rfl
      have t0 := hP.cell 0 rfl; have f0 := hP.free 0 (by simp [V11])
      have t1 := hP.cell 1 rfl; have f1 := hP.free 1 (by simp [V11])
      have t2 := hP.cell 2 rfl; have f2 := hP.free 2 (by simp [V11])
      have t3 := hP.cell 3 rfl; have f3 := hP.free 3 (by simp [V11])
      have t4 := hP.cell 4 rfl; have f4 := hP.free 4 (by simp [V11])
      have t5 := hP.cell 5 rfl; have f5 := hP.free 5 (by simp [V11])
      have t6 := hP.cell 6 rfl; have f6 := hP.free 6 (by simp [V11])
      have t7 := hP.cell 7 rfl; have f7 := hP.free 7 (by simp [V11])
      have t8 := hP.cell 8 rfl; have f8 := hP.free 8 (by simp [V11])
      have t9 := hP.cell 9 rfl; have f9 := hP.free 9 (by simp [V11])
      have t10 := hP.cell 10 rfl; have f10 := hP.free 10 (by simp [V11])
      have HREL := Lib.hid (show ∀ wx, wx = st11 wr p (.int .i64 y2.k) (.int .i64 y2.i) (.int .i64 y2.c) (.string ⟨y2.t.toArray⟩) (.int .i64 y2.b.k) (.int .i64 y2.b.i) (.int .u64 y2.b.b) (.string ⟨y2.b.t.toArray⟩) (.slice bl2 bn2 bc2) (.slice cl2 cn2 cc2) (.slice l2 n2 cap2) → AtRel S p pl x w1 (.int .i64 ((i + 1 : Nat) : Int)) wx from fun wx hx => by
        subst hx
        have hk := st11_kept (w := wr) (b := p) (.int .i64 y2.k) (.int .i64 y2.i) (.int .i64 y2.c) (.string ⟨y2.t.toArray⟩) (.int .i64 y2.b.k) (.int .i64 y2.b.i) (.int .u64 y2.b.b) (.string ⟨y2.b.t.toArray⟩) (.slice bl2 bn2 bc2) (.slice cl2 cn2 cc2) (.slice l2 n2 cap2)
        exact ⟨i + 1, y2, bl2, bn2, bc2, cl2, cn2, cc2, l2, n2, cap2, rfl, by omega, st11_blk hP (.int .i64 y2.k) (.int .i64 y2.i) (.int .i64 y2.c) (.string ⟨y2.t.toArray⟩) (.int .i64 y2.b.k) (.int .i64 y2.b.i) (.int .u64 y2.b.b) (.string ⟨y2.b.t.toArray⟩) (.slice bl2 bn2 bc2) (.slice cl2 cn2 cc2) (.slice l2 n2 cap2), hE2.same (fun q hq hl => hk.block q hl (fun e => by have := HS.out q hq; unfold N1 at e; omega)) (fun q hq _ => hq), by rw [hks]; exact hat2, hK.trans hk⟩)
      have HII := Lib.hid hin
      have hnm2 := HN.out.2
      clear hat hat2 hdrop hks hget hEo hE2 he hyl hEy hP hK hZr hBr hcell hlen hi hab
      generalize hdl : dn.len = j at *
      clear hdl
      go_wp2_with fail
      go_roundw
      case rel => exact HREL.out _ rfl
      case measure => simp [intOf]; have := HII.out; omega
    · have hj : ¬ (i : Int) < (nw : Int) := by omega
      have hd : pl.drop i = [] := List.drop_eq_nil_of_le (by omega)
      rw [hd] at hat
      obtain rfl : y = x := Option.some.inj hat
      have HF := Lib.hid (And.intro hZr (And.intro hEy hBr))
      have x0 := hP.cell 0 rfl
      have x1 := hP.cell 1 rfl
      have x2 := hP.cell 2 rfl
      have x3 := hP.cell 3 rfl
      have x4 := hP.cell 4 rfl
      have x5 := hP.cell 5 rfl
      have x6 := hP.cell 6 rfl
      have x7 := hP.cell 7 rfl
      have x8 := hP.cell 8 rfl
      have x9 := hP.cell 9 rfl
      have x10 := hP.cell 10 rfl
      have z0 := hZr.cell 0 rfl; have f0 := hZr.free 0 (by simp [Z11])
      have z1 := hZr.cell 1 rfl; have f1 := hZr.free 1 (by simp [Z11])
      have z2 := hZr.cell 2 rfl; have f2 := hZr.free 2 (by simp [Z11])
      have z3 := hZr.cell 3 rfl; have f3 := hZr.free 3 (by simp [Z11])
      have z4 := hZr.cell 4 rfl; have f4 := hZr.free 4 (by simp [Z11])
      have z5 := hZr.cell 5 rfl; have f5 := hZr.free 5 (by simp [Z11])
      have z6 := hZr.cell 6 rfl; have f6 := hZr.free 6 (by simp [Z11])
      have z7 := hZr.cell 7 rfl; have f7 := hZr.free 7 (by simp [Z11])
      have z8 := hZr.cell 8 rfl; have f8 := hZr.free 8 (by simp [Z11])
      have z9 := hZr.cell 9 rfl; have f9 := hZr.free 9 (by simp [Z11])
      have z10 := hZr.cell 10 rfl; have f10 := hZr.free 10 (by simp [Z11])
      clear hat hd hP hEy hK hZr hBr hlen hi
      go_wp2_with fail
      exact atp_fin Tryz.results37 rfl HF.out.1 HLT.out.2.2.1 HF.out.2.1 (fun q hq => by have := HS.out q hq; have := HLT.out; omega) HF.out.2.2
end Go.Proofs.YtbldidiibkcelaaGreatDoor

