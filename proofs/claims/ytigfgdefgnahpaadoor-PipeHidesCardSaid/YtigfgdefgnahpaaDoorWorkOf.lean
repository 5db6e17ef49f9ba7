/-
  The document's state behind Start; what a copying leaves of the source. Not a statement of the seat.
-/
import Derived.Test.YtigfgdefgnahpaaDoorWorkStart
import Derived.Test.YtigfgdefgnahpaaDoorCopyC
namespace Go.Proofs.YtigfgdefgnahpaaDoor
open Go.RowKit

def wkOf (A : Sa) (ps qs : List Pp) (R : Rw) (tb : Nat) (bl : Nat → Nat) : Wk :=
  ⟨A.dat, A.sa, A.sn, A.sc, A.wr, A.pa, A.pn, A.pc, ps, A.ta, A.tn, A.tc, A.rd, A.bk, A.qa, A.qn, A.qc, qs, R.a1, R.c1, R.a2, R.c2, R.a3, R.c3, R.a4, R.c4, tb, bl⟩
theorem upto_rev (ps : List Pp) (i : Nat) : (upto ps i).reverse = (ps.take i).map Pp.fresh := by unfold upto; rw [List.reverse_reverse]
theorem uptoK_rev (ps : List Pp) (i : Nat) : (uptoK ps i).reverse = (ps.take i).map Pp.kw := by unfold uptoK; rw [List.reverse_reverse]
theorem startWork {w : World} {r : Own} {A : Sa} {ps qs : List Pp} {zs tzs : List Int} {wb tb sb db : Nat} {R : Rw} {bl : Nat → Nat} {t : Tank} (ht : t = freshT tzs A.room A.over)
    (h : StartAt w r A ps wb tb sb db R bl A.pn A.pn A.pn A.qn t) (hP : Pipes w r A.pa A.pn A.pc ps) (hQ : Pipes w r A.qa A.qn A.qc qs) (hZ : RdK w r none 1 A.sa A.sn A.sc (I3 zs)) :
    WCp w r wb (wkOf A ps qs R tb bl) ⟨upto ps A.pn, srcOf A.dat.data.toList zs A.early A.broken, uptoK qs A.qn, t, 0⟩ := by
  subst ht
  obtain ⟨h1, h2, h3, h4, h5, h6, h7, h8, h9, h10⟩ := h
  have hpl : ps.take A.pn = ps := List.take_of_length_le (by rw [hP.len]; exact Nat.le_refl _)
  have hql : qs.take A.qn = qs := List.take_of_length_le (by rw [hQ.len]; exact Nat.le_refl _)
  refine ⟨⟨h1, h2, rfl, hZ, hP, hQ, ?_, h7, ?_, ?_, h5, fun i tk hi => ?_, ?_⟩, ?_⟩
  · show RowK w r 1 1 R.a1 A.pn R.c1 (I3 ((upto ps A.pn).reverse.map Wr.lim))
    rw [upto_rev, List.map_map]
    exact h6
  · show RowK w r 2 1 R.a3 A.pn R.c3 (I3 ((upto ps A.pn).reverse.map Wr.cnt))
    have he : (upto ps A.pn).reverse.map Wr.cnt = List.replicate A.pn 0 := by
      rw [upto_rev, List.map_map, hpl, List.eq_replicate_iff]
      exact ⟨by rw [List.length_map]; exact hP.len, fun b hb => by obtain ⟨x, _, rfl⟩ := List.mem_map.1 hb; rfl⟩
    rw [he]; exact h8
  · show RowK w r 4 1 R.a4 A.qn R.c4 (I3 (ksOf (uptoK qs A.qn)))
    have he : ksOf (uptoK qs A.qn) = List.replicate A.qn 0 := by
      unfold ksOf
      rw [uptoK_rev, List.map_map, hql, List.eq_replicate_iff]
      exact ⟨by rw [List.length_map]; exact hQ.len, fun b hb => by obtain ⟨x, _, rfl⟩ := List.mem_map.1 hb; rfl⟩
    rw [he]; exact h9
  · have hi' : ((upto ps A.pn).reverse.map Wr.tank)[i]? = some tk := hi
    rw [upto_rev, hpl, List.map_map, List.getElem?_map] at hi'
    cases hp : ps[i]? with
    | none => rw [hp] at hi'; cases hi'
    | some p =>
      rw [hp] at hi'
      cases hi'
      have hlt : i < A.pn := by have := (List.getElem?_eq_some_iff.1 hp).1; rw [hP.len] at this; exact this
      exact ⟨_, _, h10 i p hlt hp⟩
  · show (upto ps A.pn).reverse.map Wr.op = ps.map Pp.op
    rw [upto_rev, hpl, List.map_map]; rfl
  · show (uptoK qs A.qn).reverse.map (·.1) = qs.map _
    rw [uptoK_rev, hql, List.map_map]; rfl

theorem runM_sok {p : Nat} {round : Cp → Cp × Option Int} (hr : ∀ c, CpOk p c → (round c).1.s.ok) (ho : ∀ c, CpOk p c → (round c).2 = none → CpOk p (round c).1) : ∀ (f : Nat) (c : Cp), CpOk p c → (runM round f c).1.s.ok
  | 0, c, h => h.s
  | f + 1, c, h => by
    cases he : (round c).2 with
    | some e => rw [runM_stop he]; exact hr c h
    | none => rw [runM_more he]; exact runM_sok hr ho f _ (ho c h he)
theorem copyM_sok {p : Nat} {sh : Sh} {sk : Sk} {bulk m F : Nat} {c : Cp} (h : CpOk p c) (hm : 1 ≤ m) (hb : sk.rd = true → 1 ≤ bulk) : (copyM sh sk bulk m F c).1.s.ok := by
  have hbuf : ∀ c, CpOk p c → (bufRound m c).1.s.ok := fun c hc => by
    have g := readM_good c.l c.s m hc.s hc.l
    unfold bufRound
    dsimp only
    split
    · exact g.ok
    · split
      · exact g.ok
      · split
        · exact g.ok
        · split
          · exact g.ok
          · exact g.ok
  have hread : ∀ c, CpOk p c → (readRound bulk c).1.s.ok := fun c hc => (readM_good c.l c.s bulk hc.s hc.l).ok
  unfold copyM
  by_cases h1 : fastB sh.wr c.l = true
  · rw [if_pos h1]
    show (writesC c).s.ok
    unfold writesC
    split
    · exact h.s
    · obtain ⟨a, b, d, e⟩ := h.s
      refine ⟨a, b, ?_, e⟩
      show c.s.pos + wrote c ≤ c.s.data.length
      unfold wrote
      split
      · omega
      · unfold Sc.left; omega
  · rw [if_neg h1]
    by_cases h2 : fastK sk.rd c.k = true
    · rw [if_pos h2]
      have hb' := hb (by unfold fastK at h2; simp at h2; exact h2.1)
      exact runM_sok hread (fun c hc he => (readRound_ok hc hb' he).1) F c h
    · rw [if_neg h2]
      exact runM_sok hbuf (fun c hc he => (bufRound_ok hc hm he).1) F c h
theorem fastB_only (wr : Bool) (ps : List Pp) (n : Nat) (h : ps.length = n) : fastB wr (upto ps n) = (wr && onlyB ps) := by
  unfold fastB onlyB upto
  rw [List.take_of_length_le (by omega), List.all_reverse, List.all_map]
  rfl
theorem fastK_only (rd : Bool) (qs : List Pp) (n : Nat) (h : qs.length = n) : fastK rd (uptoK qs n) = (rd && onlyB qs) := by
  unfold fastK onlyB uptoK
  rw [List.take_of_length_le (by omega), List.all_reverse, List.all_map]
  rfl
end Go.Proofs.YtigfgdefgnahpaaDoor
