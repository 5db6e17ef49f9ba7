/-
  The chain's read: the contract by induction on the wrappers. Not a statement of the seat.
-/
import Derived.Test.YtigfgdefgnahpaaDoorReads
namespace Go.Proofs.YtigfgdefgnahpaaDoor
open Go.RowKit

theorem fastB_ops {wr : Bool} {l l' : List Wr} (h : l'.map Wr.op = l.map Wr.op) : fastB wr l' = fastB wr l := by
  have : ∀ a : List Wr, a.all (fun x => x.op == 2) = (a.map Wr.op).all (fun o => o == 2) := fun a => by rw [List.all_map]; rfl
  unfold fastB
  rw [this, this, h]

theorem Row.widen {B : Nat} {w : World} {a : Option Addr} {n n' cap : Nat} {xs : List Value} (h : Row B w 1 a n cap xs) (hn : n ≤ n') (hc : n' ≤ cap) : ∃ ys, Row B w 1 a n' cap ys ∧ ys.take n = xs := by
  obtain ⟨h1, h2, h3, h4⟩ := h
  rcases h4 with ⟨rfl, h4⟩ | ⟨b, off, rfl, hB, hlt, hcs, hs⟩
  · have hx : xs = [] := List.eq_nil_of_length_eq_zero (by omega)
    subst hx
    obtain rfl : n' = 0 := by omega
    exact ⟨[], ⟨by simp, hc, h3, .inl ⟨rfl, h4⟩⟩, by simp⟩
  · let ys : List Value := (List.range n').map (fun j => (w.cell? ⟨b, off + j, none⟩).getD undef)
    have hl : ys.length = n' := by simp [ys]
    have hy : ∀ j, j < ys.length → w.cell? ⟨b, off + j, none⟩ = ys[j]? := fun j hj => by
      rw [hl] at hj
      obtain ⟨v, hv⟩ := Option.isSome_iff_exists.1 (hs j (by omega)).1
      simp only [ys, List.getElem?_map, List.getElem?_range hj, Option.map_some, hv, Option.getD_some]
    refine ⟨ys, ⟨by omega, hc, h3, .inr ⟨b, off, rfl, hB, hlt, hy, hs⟩⟩, ?_⟩
    apply List.ext_getElem?
    intro j
    rw [List.getElem?_take]
    by_cases hj : j < n
    · rw [if_pos hj, ← hy j (by omega), hcs j (by omega)]
    · rw [if_neg hj, List.getElem?_eq_none (by omega)]

theorem inner_of {wr : Sh} {below : Value} {l : List Wr} {s : Sc} {m q : Nat} {pa : Option Addr} {pc : Nat} {ps : List Value} {w w1 w' : World} {r : Own} (h : GotW wr below l s m q pa pc w1 r w') (hbnd : Bnd w r) (hb : Below w.heap.size w w1) (hP : RowK w r q 1 pa m pc ps) :
    ∃ r', Step (fun k => k ≤ l.length ∨ k = q) w r w' r' ∧ Step (fun k => k ≤ l.length ∨ k = q) w1 r w' r' ∧ Chain w' r' wr below (readM l s m).l (readM l s m).s ∧ ReadInto s (readM l s m).n w w' r' q pa m pc := by
  obtain ⟨r', h1, h2, h3, h4⟩ := h
  exact ⟨r', ((Step.refl _ hbnd).calm hb).trans h1, h1, h2, h3, (Ahead.step hP ((Step.refl (fun _ => False) hbnd).calm hb) id).trans h4⟩

/-- a store into a block of another owner, behind a reading -/
theorem ReadInto.put {s : Sc} {n : Nat} {w w' : World} {r' : Own} {q : Nat} {pa : Option Addr} {pn pc : Nat} (h : ReadInto s n w w' r' q pa pn pc) {b o k : Nat} (u : Value) (hb : r' b = some k) (hk : k ≠ q) : ReadInto s n w (w'.setCell ⟨b, o, none⟩ u) r' q pa pn pc := by
  obtain ⟨⟨xs, h1, h2⟩, h3⟩ := h
  have hne : ∀ x, blockOf pa = some x → x ≠ b := fun x hx e => by subst e; have := h1.2 x hx; rw [hb] at this; cases this; exact hk rfl
  exact ⟨⟨xs, ⟨h1.1.kept (grownBy_setAt _ _ _) (.inl (fun e => hne b e rfl)), h1.2⟩, h2⟩, h3.trans (Ahead.same (fun x hx => Below.heap_setCell _ _ _ _ (hne x hx)))⟩

/-- behind a reading and a writing to the side -/
def TeeW (wr : Sh) (below : Value) (tb : Nat) (x : Wr) (l : List Wr) (s : Sc) (m q : Nat) (pa : Option Addr) (pc : Nat) (w : World) (r : Own) (w2 : World) : Prop :=
  ∃ r2, Step (fun k => k ≤ (x :: l).length ∨ k = q) w r w2 r2 ∧ (∃ ll, ll = { x with tank := x.tank.put ((s.data.drop s.pos).take (readM l s m).n) } :: (readM l s m).l ∧ Chain w2 r2 wr (.iface 137 (.agg #[below, .iface 55 (.pointer (some ⟨tb, 0, none⟩))])) ll (readM l s m).s) ∧ ReadInto s (readM l s m).n w w2 r2 q pa m pc

theorem chainRead {eb : Nat} {wr : Sh} : ∀ (l : List Wr) {v : Value} {s : Sc} {m q : Nat} {pa : Option Addr} {pc : Nat} {ps : List Value} {w : World} {r : Own} {K : FuncId} {rv : Value},
    Chain w r wr v l s → s.ok → Oks l s → s.k < 100000000000 → m ≤ 1000000 → RowK w r q 1 pa m pc ps → l.length < q → q ≠ 30 → l.length < 30 → EOFat w r eb → Bnd w r → Meth "conduit/pipe.read" v K rv →
    Calls Tryd.prog K #[rv, .slice pa m pc] w (PostV (.tuple #[.int .i64 (readM l s m).n, errV eb (readM l s m).e]) (GotW wr v l s m q pa pc w r))
  | [], v, s, m, q, pa, pc, ps, w, r, K, rv, hC, hok, _, hk, hm, hP, hq, hq30, _, hE, hbnd, hM => by
    obtain ⟨fs, hv, hS, hfs⟩ := hC
    obtain ⟨rfl, rfl⟩ : K = 82 ∧ rv = .pointer (some ⟨fs, 0, none⟩) := by
      refine hM.unique w ?_
      rw [hv]
      cases wr.wr
      · exact ⟨_, _, rfl, fun w => mRd54 _ w, cf82⟩
      · exact ⟨_, _, rfl, fun w => mRd104 _ w, cf82⟩
    refine (srcReadN hS hok (by omega) hm hP ⟨by simp at hq; omega, hq30⟩ hE hbnd rfl rfl).mono ?_
    rintro e w' ⟨rfl, h1, h2, h3⟩
    exact ⟨rfl, r, h1.mono (fun k hk => by rcases hk with rfl | rfl <;> simp), ⟨fs, hv, h2, hfs⟩, h3⟩
  | x :: l, v, s, m, q, pa, pc, ps, w, r, K, rv, hC, hok, hoks, hk, hm, hP, hq, hq30, hl30, hE, hbnd, hM => by
    obtain ⟨below, hB, hW⟩ := hC
    have hoksl : Oks l s := fun y hy => hoks y (by simp [hy])
    have hxok := hoks x (by simp)
    have hlen : l.length + 1 < q := by simpa using hq
    have hl30' : l.length + 1 < 30 := by simpa using hl30
    obtain ⟨K0, rv0, hM0⟩ := chainMeth hB
    have hg := fun m => readM_good l s m hok hoksl
    have halloc := fun (o : Obj) => ((Below.refl w.heap.size w).alloc (Nat.le_refl _) o)
    have ih := fun (m' : Nat) (ps' : List Value) (w1 : World) (hb1 : Below w.heap.size w w1) (hm' : m' ≤ 1000000) (hP' : RowK w r q 1 pa m' pc ps') =>
      chainRead l (m := m') (q := q) (w := w1) (r := r) (hB.step (K := fun _ => False) ((Step.refl _ hbnd).calm hb1) (fun _ _ h => h) id) hok hoksl hk hm' (hP'.step ((Step.refl (fun _ => False) hbnd).calm hb1) id) (by omega) hq30 (by omega) (hE.step ((Step.refl (fun _ => False) hbnd).calm hb1)) ((Step.refl (fun _ => False) hbnd).calm hb1).bound hM0
    have hmono : ∀ k, (k ≤ l.length ∨ k = q) → (k ≤ (x :: l).length ∨ k = q) := fun k hk => by simp; omega
    unfold WrapAt at hW
    by_cases h3 : x.op = 3
    · rw [if_neg (by omega), if_pos h3] at hW
      obtain ⟨lb, rfl, hlb, hBl, hEQ⟩ := hW
      obtain ⟨rfl, rfl⟩ : K = 86 ∧ rv = .pointer (some ⟨lb, 0, none⟩) := hM.unique w ⟨_, _, rfl, fun w => mRd58 _ w, cf86⟩
      have c0 := hBl.cell 0 rfl
      have c1 := hBl.cell 1 rfl
      by_cases hl : x.lim ≤ 0
      · have he : readM (x :: l) s m = { l := x :: l, s := s, n := 0, e := -1 } := by rw [readM, if_pos h3, if_pos hl]
        have hv : errV eb (readM (x :: l) s m).e = EOFv eb := by rw [he]; rfl
        rw [hv]
        have := limRead0 (m := m) (pc := pc) (pa := pa) (Q := GotW wr (.iface 58 (.pointer (some ⟨lb, 0, none⟩))) (x :: l) s m q pa pc w r) c1 hl hE.2.2 (fun n => by
          have g := (Step.refl (fun _ => False) hbnd).calm (below_drewN w.heap.size w n)
          refine ⟨r, g.mono (fun k hk => hk.elim), ?_, ?_⟩
          · rw [he]
            refine ⟨below, hB.step g (fun _ _ h => h) id, ?_⟩
            have hW' : WrapAt w r (l.length + 1) (wr.bl (l.length + 1)) (fastB wr.wr l) below (.iface 58 (.pointer (some ⟨lb, 0, none⟩))) x := by
              unfold WrapAt; rw [if_neg (by omega), if_pos h3]; exact ⟨lb, rfl, hlb, hBl, hEQ⟩
            exact hW'.step g id
          · rw [he]
            exact ⟨⟨ps, hP.step g id, by simp [B8]⟩, Ahead.step hP g id⟩)
        have h0 : (readM (x :: l) s m).n = 0 := by rw [he]
        rw [h0]
        exact this
      · have he : readM (x :: l) s m = { readM l s (if x.lim < m then x.lim.toNat else m) with l := limDown x (readM l s (if x.lim < m then x.lim.toNat else m)).n :: (readM l s (if x.lim < m then x.lim.toNat else m)).l } := by rw [readM, if_pos h3, if_neg hl]
        have hfin : ∀ (m' : Nat) (w' : World), m' ≤ m → (if x.lim < m then x.lim.toNat else m) = m' → GotW wr below l s m' q pa pc w r w' →
            GotW wr (.iface 58 (.pointer (some ⟨lb, 0, none⟩))) (x :: l) s m q pa pc w r (w'.setCell ⟨lb, 1, none⟩ (.int .i64 (x.lim - (readM l s m').n))) := by
          intro m' w' hmm hm' hG
          rw [hm'] at he
          obtain ⟨r', g1, g2, g3⟩ := hG
          have hlb' := g1.oldK hBl.lt hlb
          have k1 : Step (fun k => k ≤ (x :: l).length ∨ k = q) w r (w'.setCell ⟨lb, 1, none⟩ (.int .i64 (x.lim - (readM l s m').n))) r' := (g1.mono hmono).put _ (fun _ => ⟨_, hlb, .inl (by simp)⟩)
          have k2 : Step (fun k => k = l.length + 1) w' r' (w'.setCell ⟨lb, 1, none⟩ (.int .i64 (x.lim - (readM l s m').n))) r' := (Step.refl _ g1.bound).put _ (fun _ => ⟨_, hlb', rfl⟩)
          refine ⟨r', k1, ?_, ?_⟩
          · rw [he]
            refine ⟨below, g2.step k2 (fun k hk e => by have := (hg m').len; omega) (by omega), ?_⟩
            unfold WrapAt
            rw [if_neg (by simp [limDown]; omega), if_pos (by simpa [limDown] using h3), (hg m').len]
            exact ⟨lb, rfl, hlb', (hBl.step g1 hlb (by omega)).set (j := 1) _, hEQ⟩
          · rw [he]
            obtain ⟨⟨xs, p1, p2⟩, p3⟩ := g3
            obtain ⟨ys, y1, y2⟩ := p1.1.widen hmm hP.1.rd.le
            refine ReadInto.put (k := l.length + 1) ⟨⟨ys, ⟨y1, p1.2⟩, ?_⟩, p3⟩ _ hlb' (by omega)
            have hle := (hg m').le
            rw [← p2, ← y2, List.take_take, Nat.min_eq_left hle]
        by_cases hmm : x.lim < m
        · obtain ⟨L, hL⟩ : ∃ L : Nat, x.lim = L := ⟨x.lim.toNat, by omega⟩
          have hm' : (if x.lim < m then x.lim.toNat else m) = L := by rw [if_pos hmm]; omega
          have hn0 : (readM (x :: l) s m).n = (readM l s L).n := by rw [he, hm']
          have he0 : (readM (x :: l) s m).e = (readM l s L).e := by rw [he, hm']
          rw [hn0, he0]
          have hPL : RowK w r q 1 pa L pc (ps.take L) := ⟨by simpa using hP.1.take (k := L) (c := pc) (by omega) (by have := hP.1.rd.le; omega) (Nat.le_refl _), hP.2⟩
          have hfL := fun w' => hfin L w' (by omega) hm'
          rw [hL] at c1 hfL
          refine limReadB hM0 c0 c1 (by omega) (by omega) hP.1.rd.le (hg L).le hm (ih L _ w (Below.refl _ _) (by omega) hPL) (fun w' hG => ?_) hfL
          obtain ⟨r', g1, g2, g3⟩ := hG
          have hb' := hBl.step g1 hlb (by omega)
          exact ⟨by rw [← hL]; exact hb'.cell 1 rfl, hb'.free 1 (by simp)⟩
        · have hm' : (if x.lim < m then x.lim.toNat else m) = m := by rw [if_neg hmm]
          have hn0 : (readM (x :: l) s m).n = (readM l s m).n := by rw [he, hm']
          have he0 : (readM (x :: l) s m).e = (readM l s m).e := by rw [he, hm']
          rw [hn0, he0]
          refine limReadA hM0 c0 c1 (by omega) (by omega) hxok.2.2.2.2.2.2 (hg m).le (ih m _ w (Below.refl _ _) hm hP) (fun w' hG => ?_) (fun w' => hfin m w' (Nat.le_refl _) hm')
          obtain ⟨r', g1, g2, g3⟩ := hG
          have hb' := hBl.step g1 hlb (by omega)
          exact ⟨hb'.cell 1 rfl, hb'.free 1 (by simp)⟩
    · by_cases h2 : x.op = 2
      · have he : readM (x :: l) s m = { readM l s m with l := countUp x (readM l s m).n :: (readM l s m).l } := by rw [readM, if_neg h3, if_pos h2]
        have hn0 : (readM (x :: l) s m).n = (readM l s m).n := by rw [he]
        have he0 : (readM (x :: l) s m).e = (readM l s m).e := by rw [he]
        rw [hn0, he0]
        rw [if_pos h2] at hW
        obtain ⟨cb, hv, hcb, hBl, hEQ⟩ := hW
        obtain ⟨rfl, rfl⟩ : K = 92 ∧ rv = .agg #[below, .pointer (some ⟨cb, 0, none⟩)] := by
          refine hM.unique w ?_
          rw [hv]
          cases fastB wr.wr l
          · exact ⟨_, _, rfl, fun w => mRd130 _ _ w, cf92⟩
          · exact ⟨_, _, rfl, fun w => mRd135 _ _ _ w, cf92⟩
        have hnn := (hg m).le
        refine countRead hM0 (c := x.cnt) (ih m _ _ (halloc _) hm hP) ⟨hxok.2.2.2.1, ?_⟩ (fun w' hG => ?_) (fun w' hG => ?_)
        · have h5 := hxok.2.2.2.2.1
          have h6 := hok.2.2.1
          have h7 := hok.2.2.2
          have h8 := (hg m).bytes
          have h9 := (hg m).ok.2.2.1
          rw [(hg m).data] at h9
          omega
        · obtain ⟨r', g1, g11, g2, g3⟩ := inner_of hG hbnd (halloc _) hP
          have hb' := hBl.step g1 hcb (by omega)
          refine ⟨hb'.cell 0 rfl, hb'.free 0 (by simp), ?_⟩
          have hk0 := g11.keep w.heap.size (by simp) (fun k hk => by rw [hbnd _ (Nat.le_refl _)] at hk; cases hk)
          rw [World.cell?_of_block (a := ⟨w.heap.size, 1, none⟩) hk0]
          simp
        · obtain ⟨r', g1, g11, g2, g3⟩ := inner_of hG hbnd (halloc _) hP
          have hcb' := g1.oldK hBl.lt hcb
          have k2 : Step (fun k => k = l.length + 1) w' r' (w'.setCell ⟨cb, 0, none⟩ (.int .i64 (x.cnt + (readM l s m).n))) r' := (Step.refl _ g1.bound).put _ (fun _ => ⟨_, hcb', rfl⟩)
          refine ⟨r', (g1.mono hmono).put _ (fun _ => ⟨_, hcb, .inl (by simp)⟩), ?_, by rw [he]; exact g3.put _ hcb' (by omega)⟩
          rw [he]
          refine ⟨below, g2.step k2 (fun k hk e => by have := (hg m).len; omega) (by omega), ?_⟩
          unfold WrapAt
          rw [if_pos (by simpa [countUp] using h2), (hg m).len, fastB_ops (hg m).ops]
          exact ⟨cb, hv, hcb', (hBl.step g1 hcb (by omega)).set (j := 0) _, hEQ⟩
      · by_cases h4 : x.op = 4
        · have he : readM (x :: l) s m = teeOf s x (readM l s m) := by rw [readM, if_neg h3, if_neg h2, if_pos h4]
          rw [if_neg h2, if_neg h3, if_pos h4] at hW
          obtain ⟨tb, bk, rfl, hT, hEQ⟩ := hW
          obtain ⟨rfl, rfl⟩ : K = 94 ∧ rv = .agg #[below, .iface 55 (.pointer (some ⟨tb, 0, none⟩))] := hM.unique w ⟨_, _, rfl, fun w => mRd137 _ _ w, cf94⟩
          have hin := ih m _ _ (halloc (.cells #[below, .iface 55 (.pointer (some ⟨tb, 0, none⟩))] 137)) hm hP
          have hgm := hg m
          rw [he]
          have hne : ∀ x', blockOf pa = some x' → x' < w.heap.size := fun x' hx => (hP.1.lt x' hx).2
          by_cases h0 : (readM l s m).n = 0
          · have e1 : (teeOf s x (readM l s m)).n = 0 := by unfold teeOf; rw [if_pos h0]; exact h0
            have e2 : (teeOf s x (readM l s m)).e = (readM l s m).e := by unfold teeOf; rw [if_pos h0]
            have e3 : (teeOf s x (readM l s m)).l = x :: (readM l s m).l := by unfold teeOf; rw [if_pos h0]
            have e4 : (teeOf s x (readM l s m)).s = (readM l s m).s := by unfold teeOf; rw [if_pos h0]
            rw [e1, e2]
            rw [h0] at hin
            refine (teeRead0 hM0 hin).mono ?_
            rintro e w' ⟨rfl, hG⟩
            obtain ⟨r', g1, g11, g2, g3⟩ := inner_of hG hbnd (halloc _) hP
            refine ⟨rfl, r', g1.mono hmono, ?_, ?_⟩
            · rw [he, e3, e4]
              refine ⟨below, g2, ?_⟩
              unfold WrapAt
              rw [if_neg h2, if_neg h3, if_pos h4, hgm.len]
              exact ⟨tb, bk, rfl, hT.step g1 (by omega), hEQ⟩
            · rw [he, e1]
              rw [h0] at g3
              exact g3
          · have hb14 : ((s.data.drop s.pos).take (readM l s m).n).length = (readM l s m).n := by
              have := hgm.ok.2.2.1
              have h8 := hgm.bytes
              have h7 := hgm.pos
              rw [hgm.data] at this
              rw [List.length_take, List.length_drop]; omega
            have hkn := hgm.kn h0
            have hnb : x.tank.has.length + (readM l s m).n ≤ 1000000 := by
              have h5 := hxok.2.1
              have h7 := hok.2.2.2
              have h8 := hgm.bytes
              have h9 := hgm.ok.2.2.1
              have h10 := hok.2.2.1
              rw [hgm.data] at h9
              omega
            have hxk := hxok.2.2.1
            have e3 : (teeOf s x (readM l s m)).l = { x with tank := x.tank.put ((s.data.drop s.pos).take (readM l s m).n) } :: (readM l s m).l := by unfold teeOf; rw [if_neg h0]
            have e4 : (teeOf s x (readM l s m)).s = (readM l s m).s := by unfold teeOf; rw [if_neg h0]
            have hcell : ∀ w', GotW wr below l s m q pa pc (w.alloc (.cells #[below, .iface 55 (.pointer (some ⟨tb, 0, none⟩))] 137)) r w' → w'.cell? ⟨w.heap.size, 1, none⟩ = some (.iface 55 (.pointer (some ⟨tb, 0, none⟩))) := by
              intro w' hG
              obtain ⟨r', g1, g11, g2, g3⟩ := inner_of hG hbnd (halloc _) hP
              have hk0 := g11.keep w.heap.size (by simp) (fun k hk => by rw [hbnd _ (Nat.le_refl _)] at hk; cases hk)
              rw [World.cell?_of_block (a := ⟨w.heap.size, 1, none⟩) hk0]
              simp
            have hwr : ∀ w', GotW wr below l s m q pa pc (w.alloc (.cells #[below, .iface 55 (.pointer (some ⟨tb, 0, none⟩))] 137)) r w' →
                Calls Tryd.prog 85 #[.pointer (some ⟨tb, 0, none⟩), .slice pa (readM l s m).n pc] w'.drew (PostV (.tuple #[.int .i64 (x.tank.said (readM l s m).n), errV eb (if x.tank.full (readM l s m).n then 362 else 0)])
                  (TeeW wr below tb x l s m q pa pc w r)) := by
              intro w' hG
              obtain ⟨r', g1, g11, g2, g3⟩ := inner_of hG hbnd (halloc _) hP
              have g1' := g1.drew
              have d0 : Step (fun _ => False) w' r' w'.drew r' := (Step.refl _ g1.bound).drew
              have hT' := hT.step g1' (by omega)
              obtain ⟨⟨xs, p1, p2⟩, p3⟩ := g3
              have p1' := p1.step d0 id
              have hR : RdK w'.drew r' (some q) 1 pa (readM l s m).n pc (B8 ((s.data.drop s.pos).take (readM l s m).n)) := by
                refine ⟨?_, .inr p1'.2⟩
                rw [← p2]
                simpa using p1'.1.rd.take (k := (readM l s m).n) hgm.le (by have := hP.1.rd.le; have := hgm.le; omega) (Nat.le_refl _)
              have hwc := writeN (eb := eb) hT' hxok.1 hR (by intro e; cases e; omega) (by rw [hb14]; exact hnb) (by omega) g1'.bound rfl rfl
              rw [hb14] at hwc
              refine hwc.mono ?_
              rintro e w2 ⟨rfl, r2, k1, k2⟩
              have k3 : Step (fun k => k ≤ (x :: l).length ∨ k = q) w r w2 r2 := (g1'.mono hmono).trans (k1.mono (fun k hk => .inl (by simp; omega)))
              refine ⟨rfl, r2, k3, ⟨_, rfl, below, (g2.step d0 (fun _ _ h => h) id).step k1 (fun k hk e => by have := hgm.len; omega) (by omega), ?_⟩, ?_⟩
              · unfold WrapAt
                rw [if_neg (by simpa using h2), if_neg (by simpa using h3), if_pos (by simpa using h4), hgm.len]
                exact ⟨tb, bk, rfl, k2, hEQ⟩
              · exact ⟨⟨xs, p1'.step k1 (by omega), p2⟩, p3.trans ((Ahead.step p1 d0 id).trans (Ahead.step p1' k1 (by omega)))⟩
            have hin' := hin
            by_cases hf : x.tank.full (readM l s m).n = true
            · have e1 : (teeOf s x (readM l s m)).n = x.tank.took (readM l s m).n := by unfold teeOf; rw [if_neg h0]; simp [hf]
              have e2 : (teeOf s x (readM l s m)).e = 362 := by unfold teeOf; rw [if_neg h0]; simp [hf]
              have hsd : x.tank.said (readM l s m).n = x.tank.took (readM l s m).n := by unfold Tank.said; rw [if_pos hf]
              rw [e1, e2]
              refine (teeReadFull (Q' := TeeW wr below tb x l s m q pa pc w r) (said := x.tank.took (readM l s m).n) hM0 hin' (by omega) hgm.le hP.1.rd.le hcell (fun w' hG => ?_)).mono ?_
              · have := hwr w' hG
                rw [hsd, hf] at this
                exact this
              · rintro e w2 ⟨rfl, r2, k1, ⟨ll, rfl, k2⟩, ⟨⟨xs, k3, k5⟩, k4⟩⟩
                refine ⟨rfl, r2, k1, by rw [he, e3, e4]; exact k2, ⟨⟨xs, k3, ?_⟩, k4⟩⟩
                rw [he, e1]
                have := took_le x.tank (readM l s m).n
                have h9 := congrArg (List.take (x.tank.took (readM l s m).n)) k5
                rw [List.take_take, Nat.min_eq_left this, ← B8_take, List.take_take, Nat.min_eq_left this] at h9
                exact h9
            · have e1 : (teeOf s x (readM l s m)).n = (readM l s m).n := by unfold teeOf; rw [if_neg h0]; simp [hf]
              have e2 : (teeOf s x (readM l s m)).e = (readM l s m).e := by unfold teeOf; rw [if_neg h0]; simp [hf]
              rw [e1, e2]
              refine (teeReadOk (Q' := TeeW wr below tb x l s m q pa pc w r) (said := x.tank.said (readM l s m).n) hM0 hin' (by omega) hgm.le hP.1.rd.le hcell (fun w' hG => ?_)).mono ?_
              · have := hwr w' hG
                rw [if_neg hf] at this
                exact this
              · rintro e w2 ⟨rfl, r2, k1, ⟨ll, rfl, k2⟩, k3⟩
                exact ⟨rfl, r2, k1, by rw [he, e3, e4]; exact k2, by rw [he, e1]; exact k3⟩
        · have he : readM (x :: l) s m = { readM l s m with l := x :: (readM l s m).l } := by rw [readM, if_neg h3, if_neg h2, if_neg h4]
          have hn0 : (readM (x :: l) s m).n = (readM l s m).n := by rw [he]
          have he0 : (readM (x :: l) s m).e = (readM l s m).e := by rw [he]
          rw [hn0, he0]
          rw [if_neg h2, if_neg h3, if_neg h4] at hW
          subst hW
          obtain ⟨rfl, rfl⟩ : K = 95 ∧ rv = .agg #[below] := hM.unique w ⟨_, _, rfl, fun w => mRd139 _ w, cf95⟩
          refine (plainRead hM0 (ih m _ _ (halloc _) hm hP)).mono ?_
          rintro e w' ⟨rfl, hG⟩
          obtain ⟨r', g1, _, g2, g3⟩ := inner_of hG hbnd (halloc _) hP
          refine ⟨rfl, r', g1.mono hmono, ?_, by rw [he]; exact g3⟩
          rw [he]
          refine ⟨below, g2, ?_⟩
          unfold WrapAt
          rw [if_neg h2, if_neg h3, if_neg h4]
end Go.Proofs.YtigfgdefgnahpaaDoor
