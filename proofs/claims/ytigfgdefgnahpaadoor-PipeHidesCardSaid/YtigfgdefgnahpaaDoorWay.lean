/-
  The walks of only and Way (the document's). Not a statement of the seat.
-/
import Derived.Test.YtigfgdefgnahpaaDoorSource
namespace Go.Proofs.YtigfgdefgnahpaaDoor
open Go.RowKit

def onlyB (ps : List Pp) : Bool := ps.all (fun p => p.op == 2)
theorem onlyB_drop {ps : List Pp} {k : Nat} {p : Pp} (h : ps[k]? = some p) : onlyB (ps.drop k) = ((p.op == 2) && onlyB (ps.drop (k + 1))) := by
  have hl := (List.getElem?_eq_some_iff.1 h).1
  have hv := (List.getElem?_eq_some_iff.1 h).2
  unfold onlyB
  rw [List.drop_eq_getElem_cons hl, List.all_cons, hv]

set_option maxRecDepth 100000 in
theorem onlyR {a : Option Addr} {n cap : Nat} {ps : List Pp} {w : World} {r : Own} (hP : Pipes w r a n cap ps) : Calls Tryd.prog 47 #[.slice a n cap] w (RV w (.bool (onlyB ps))) := by
  have hlen := hP.len
  have hcap := hP.1.1.le
  have hmax := hP.1.1.max
  unfold maxLen at hmax
  have HP := Lib.hid hP
  have HL := Lib.hid hlen
  clear hP hlen
  go_enter Tryd.func47, Tryd.ntmps47
  go_wp2_with fail
  go_loopw [3] (fun ix wr => ∃ k, k ≤ n ∧ ix = .int .i64 ((k : Nat) : Int) ∧ wr = w ∧ onlyB ps = onlyB (ps.drop k)) (fun ix _ => n - (intOf ix).toNat)
  case atStart => exact ⟨0, Nat.zero_le _, rfl, rfl, by simp⟩
  case round =>
    obtain ⟨k, hk, rfl, rfl, heq⟩ := hrel
    have HEQ := Lib.hid heq
    clear heq
    by_cases hlt : k < n
    · obtain ⟨b, off, p, rfl, hb, hpk, hmem, hcell⟩ := HP.out.at hlt
      have q0 := hcell 0 (by omega)
      simp only [Pp.cells, List.getElem?_cons_zero, Nat.add_zero] at q0
      have hki : (k : Int) < n := by omega
      have HST := Lib.hid (onlyB_drop hpk)
      clear hcell hpk hmem
      cases h2 : (p.op == 2)
      · have h2' : (p.op != 2) = true := by simpa using h2
        have hf : onlyB ps = false := by rw [HEQ.out, HST.out, h2]; rfl
        rw [hf]
        clear h2
        go_wp2
        go_ret
        exact ⟨rfl, Below.refl _ _⟩
      · have h2' : (p.op != 2) = false := by simpa using h2
        have HF := Lib.hid (show onlyB ps = onlyB (ps.drop (k + 1)) by rw [HEQ.out, HST.out, h2]; rfl)
        clear h2
        go_wp2
        go_roundw
        case rel => exact ⟨k + 1, by omega, by go_num, by first | rfl | trivial, HF.out⟩
        case measure => simp [intOf]; omega
    · obtain rfl : k = n := by omega
      have hf : onlyB ps = true := by rw [HEQ.out, List.drop_of_length_le (by rw [HL.out]; omega)]; rfl
      have HF := Lib.hid hf
      clear hf
      go_wp2
      go_ret
      exact ⟨by rw [HF.out]; rfl, Below.refl _ _⟩

/-- which way: the source writes; the sink reads; by a buffer -/
def wayM (wr : Bool) (ps : List Pp) (rd : Bool) (qs : List Pp) : Nat := if wr && onlyB ps then 1 else if rd && onlyB qs then 2 else 0

theorem only_to {a : Option Addr} {n cap : Nat} {ps : List Pp} {w : World} {r : Own} {v : Bool} (hP : Pipes w r a n cap ps) (hv : onlyB ps = v) : Calls Tryd.prog 47 #[.slice a n cap] w (RV w (.bool v)) := by
  rw [← hv]; exact onlyR hP

set_option maxRecDepth 100000 in
set_option maxHeartbeats 1000000 in
theorem wayR {dat : ByteArray} {sa ta pa qa : Option Addr} {sn sc tn tc pn pc qn qc : Nat} {early broken wrt tover trd : Bool} {troom tbk : Int} {ps qs : List Pp} {w : World} {r : Own} (hbnd : Bnd w r)
    (hP : Pipes w r pa pn pc ps) (hQ : Pipes w r qa qn qc qs) {v : Nat} (hv : wayM wrt ps trd qs = v) :
    Calls Tryd.prog 29 #[.agg #[.string dat, .slice sa sn sc, .bool early, .bool broken, .bool wrt, .slice pa pn pc], .agg #[.slice ta tn tc, .int .i64 troom, .bool tover, .bool trd, .int .i64 tbk, .slice qa qn qc]] w (RV w (.int .i64 v)) := by
  obtain ⟨wq, hwq⟩ : ∃ wq, (w.alloc (.cells #[.string dat, .slice sa sn sc, .bool early, .bool broken, .bool wrt, .slice pa pn pc] 25)).alloc (.cells #[.slice ta tn tc, .int .i64 troom, .bool tover, .bool trd, .int .i64 tbk, .slice qa qn qc] 29) = wq := ⟨_, rfl⟩
  have hq0 : Step (fun _ => False) w r wq r := by rw [← hwq]; exact ((Step.refl _ hbnd).alloc _).alloc _
  have hb1 : Blk wq w.heap.size [.string dat, .slice sa sn sc, .bool early, .bool broken, .bool wrt, .slice pa pn pc] := by rw [← hwq]; exact (Blk.new _ _ _).alloc _
  have hb2 : Blk wq (w.heap.size + 1) [.slice ta tn tc, .int .i64 troom, .bool tover, .bool trd, .int .i64 tbk, .slice qa qn qc] := by
    rw [← hwq]
    have := Blk.new (w.alloc (.cells #[.string dat, .slice sa sn sc, .bool early, .bool broken, .bool wrt, .slice pa pn pc] 25)) #[.slice ta tn tc, .int .i64 troom, .bool tover, .bool trd, .int .i64 tbk, .slice qa qn qc] 29
    rw [sz_alloc] at this
    exact this
  have hbel : Below w.heap.size w wq := by rw [← hwq]; exact ((Below.refl _ _).alloc (Nat.le_refl _) _).alloc (by rw [sz_alloc]; omega) _
  have HB := Lib.hid hbel
  have HP := Lib.hid (hP.step hq0)
  have HQ := Lib.hid (hQ.step hq0)
  have HQ0 := Lib.hid hq0
  have HB1 := Lib.hid hb1
  have HB2 := Lib.hid hb2
  have d4 := hb1.cell 4 rfl
  have d5 := hb1.cell 5 rfl
  have e3 := hb2.cell 3 rfl
  have e5 := hb2.cell 5 rfl
  unfold wayM at hv
  clear hP hQ hq0 hb1 hb2 hbel hbnd
  cases wrt
  · cases trd
    · have hv0 : v = 0 := by rw [← hv]; simp
      subst hv0
      clear hv
      go_enter Tryd.func29, Tryd.ntmps29
      go_wp2
      go_ret
      exact ⟨rfl, HB.out⟩

    · cases h2 : onlyB qs
      · have hv0 : v = 0 := by rw [← hv]; simp [h2]
        subst hv0
        clear hv
        go_enter Tryd.func29, Tryd.ntmps29
        go_wp2_with fail
        refine (only_to HQ.out h2).mono ?_
        rintro e w2 ⟨rfl, hb2⟩
        have HBY := Lib.hid (HB.out.trans (hb2.mono HB.out.size))
        clear hb2
        go_wp2
        go_ret
        exact ⟨rfl, HBY.out⟩

      · have hv0 : v = 2 := by rw [← hv]; simp [h2]
        subst hv0
        clear hv
        go_enter Tryd.func29, Tryd.ntmps29
        go_wp2_with fail
        refine (only_to HQ.out h2).mono ?_
        rintro e w2 ⟨rfl, hb2⟩
        have HBY := Lib.hid (HB.out.trans (hb2.mono HB.out.size))
        clear hb2
        go_wp2
        go_ret
        exact ⟨rfl, HBY.out⟩


  · cases h1 : onlyB ps
    · cases trd
      · have hv0 : v = 0 := by rw [← hv]; simp [h1]
        subst hv0
        clear hv
        go_enter Tryd.func29, Tryd.ntmps29
        go_wp2_with fail
        refine (only_to HP.out h1).mono ?_
        rintro e w1 ⟨rfl, hb1⟩
        have HB1x := Lib.hid hb1
        have e3' := cellAt hb1 e3
        have e5' := cellAt hb1 e5
        have HQ1 := Lib.hid (HQ.out.step ((Step.refl (fun _ => False) HQ0.out.bound).calm hb1))
        have HBX := Lib.hid (HB.out.trans (hb1.mono HB.out.size))
        clear hb1 e3 e5
        go_wp2
        go_ret
        exact ⟨rfl, HBX.out⟩

      · cases h2 : onlyB qs
        · have hv0 : v = 0 := by rw [← hv]; simp [h2, h1]
          subst hv0
          clear hv
          go_enter Tryd.func29, Tryd.ntmps29
          go_wp2_with fail
          refine (only_to HP.out h1).mono ?_
          rintro e w1 ⟨rfl, hb1⟩
          have HB1x := Lib.hid hb1
          have e3' := cellAt hb1 e3
          have e5' := cellAt hb1 e5
          have HQ1 := Lib.hid (HQ.out.step ((Step.refl (fun _ => False) HQ0.out.bound).calm hb1))
          have HBX := Lib.hid (HB.out.trans (hb1.mono HB.out.size))
          clear hb1 e3 e5
          go_wp2_with fail
          refine (only_to HQ1.out h2).mono ?_
          rintro e w2 ⟨rfl, hb2⟩
          have HBY := Lib.hid (HBX.out.trans (hb2.mono HBX.out.size))
          clear hb2
          go_wp2
          go_ret
          exact ⟨rfl, HBY.out⟩

        · have hv0 : v = 2 := by rw [← hv]; simp [h2, h1]
          subst hv0
          clear hv
          go_enter Tryd.func29, Tryd.ntmps29
          go_wp2_with fail
          refine (only_to HP.out h1).mono ?_
          rintro e w1 ⟨rfl, hb1⟩
          have HB1x := Lib.hid hb1
          have e3' := cellAt hb1 e3
          have e5' := cellAt hb1 e5
          have HQ1 := Lib.hid (HQ.out.step ((Step.refl (fun _ => False) HQ0.out.bound).calm hb1))
          have HBX := Lib.hid (HB.out.trans (hb1.mono HB.out.size))
          clear hb1 e3 e5
          go_wp2_with fail
          refine (only_to HQ1.out h2).mono ?_
          rintro e w2 ⟨rfl, hb2⟩
          have HBY := Lib.hid (HBX.out.trans (hb2.mono HBX.out.size))
          clear hb2
          go_wp2
          go_ret
          exact ⟨rfl, HBY.out⟩


    · have hv0 : v = 1 := by rw [← hv]; simp [h1]
      subst hv0
      clear hv
      go_enter Tryd.func29, Tryd.ntmps29
      go_wp2_with fail
      refine (only_to HP.out h1).mono ?_
      rintro e w1 ⟨rfl, hb1⟩
      have HB1x := Lib.hid hb1
      have e3' := cellAt hb1 e3
      have e5' := cellAt hb1 e5
      have HQ1 := Lib.hid (HQ.out.step ((Step.refl (fun _ => False) HQ0.out.bound).calm hb1))
      have HBX := Lib.hid (HB.out.trans (hb1.mono HB.out.size))
      clear hb1 e3 e5
      go_wp2
      go_ret
      exact ⟨rfl, HBX.out⟩

end Go.Proofs.YtigfgdefgnahpaaDoor
