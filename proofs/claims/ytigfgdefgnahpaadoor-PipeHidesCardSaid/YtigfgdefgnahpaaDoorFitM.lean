/-
  The walks of inner (the document's, the code's). Not a statement of the seat.
-/
import Derived.Test.YtigfgdefgnahpaaDoorSizesR
import Derived.Test.YtigfgdefgnahpaaDoorZero
import Derived.Test.YtigfgdefgnahpaaDoorBasics
import Derived.Test.YtigfgdefgnahpaaDoorWay
namespace Go.Proofs.YtigfgdefgnahpaaDoor
open Go.RowKit

/-- may the bulk stand? -/
def bulkB (reads : Bool) (bulk : Int) : Bool := if reads then decide (1 ≤ bulk) && decide (bulk ≤ 65535) else bulk == 0
def innerB (zs : List Int) (room : Int) (reads : Bool) (bulk : Int) : Bool := bulkB reads bulk && (sizesB zs && decide (-1 ≤ room) && decide (room ≤ 65535))
theorem sizesN_to {zs : List Int} {a : Option Addr} {n cap : Nat} {v : Bool} {w : World} (hv : sizesB zs = v) (h : Nums w a n cap zs) : Calls Tryd.prog 44 #[.slice a n cap] w (RV w (.bool v)) := by
  subst hv
  exact sizesN zs a n cap w h
theorem sizesR_to {zs : List Int} {a : Option Addr} {n cap : Nat} {v : Bool} {w : World} (hv : sizesB zs = v) (h : Nums w a n cap zs) : Calls Tryd.prog 39 #[.slice a n cap] w (RV w (.bool v)) := by
  subst hv
  exact sizesR zs a n cap w h

set_option maxHeartbeats 1000000 in
theorem innerR {zs : List Int} {a : Option Addr} {n cap : Nat} {room : Int} {over rd : Bool} {bk : Int} {allow v : Bool} {w : World} (h : Nums w a n cap zs) (hv : (innerB zs room rd bk && (allow || !rd)) = v) :
    Calls Tryd.prog 41 #[.agg #[.slice a n cap, .int .i64 room, .bool over, .bool rd, .int .i64 bk], .bool allow] w (RV w (.bool v)) := by
  subst hv
  obtain ⟨wq, hwq⟩ : ∃ wq, w.alloc (.cells #[.slice a n cap, .int .i64 room, .bool over, .bool rd, .int .i64 bk] 27) = wq := ⟨_, rfl⟩
  have hB : Blk wq w.heap.size [.slice a n cap, .int .i64 room, .bool over, .bool rd, .int .i64 bk] := by rw [← hwq]; exact Blk.new _ _ _
  have HB := Lib.hid (show Below w.heap.size w wq by rw [← hwq]; exact (Below.refl _ w).alloc (Nat.le_refl _) _)
  have HN := Lib.hid (show Nums wq a n cap zs by rw [← hwq]; exact h.alloc _)
  have c0 := hB.cell 0 rfl
  have c1 := hB.cell 1 rfl
  have c3 := hB.cell 3 rfl
  have c4 := hB.cell 4 rfl
  clear hB h
  unfold innerB
  cases hs : sizesB zs
  · have HS := Lib.hid hs
    have hres : ((bulkB rd bk && (false && decide (-1 ≤ room) && decide (room ≤ 65535))) && (allow || !rd)) = false := by simp
    rw [hres]
    clear hres hs
    go_enter Tryd.func41, Tryd.ntmps41
    go_wp2_with fail
    refine (sizesR_to HS.out HN.out).mono ?_
    rintro e w1 ⟨rfl, hb⟩
    have HB1 := Lib.hid (HB.out.trans (hb.mono HB.out.size))
    have d1 := cellAt hb c1
    have d3 := cellAt hb c3
    have d4 := cellAt hb c4
    clear hb c1 c3 c4
    go_wp2
    go_ret
    exact ⟨rfl, HB1.out⟩
  · have HS := Lib.hid hs
    by_cases h1 : room < -1
    · have k1 : decide (room < -1) = true := by simpa using h1
      have hres : ((bulkB rd bk && (true && decide (-1 ≤ room) && decide (room ≤ 65535))) && (allow || !rd)) = false := by have : decide (-1 ≤ room) = false := (by simp; omega); simp [this]
      rw [hres]
      clear hres hs h1
      go_enter Tryd.func41, Tryd.ntmps41
      go_wp2_with fail
      refine (sizesR_to HS.out HN.out).mono ?_
      rintro e w1 ⟨rfl, hb⟩
      have HB1 := Lib.hid (HB.out.trans (hb.mono HB.out.size))
      have d1 := cellAt hb c1
      have d3 := cellAt hb c3
      have d4 := cellAt hb c4
      clear hb c1 c3 c4
      go_wp2
      go_ret
      exact ⟨rfl, HB1.out⟩
    · have k1 : decide (room < -1) = false := by simpa using h1
      have r1 : decide (-1 ≤ room) = true := by simp; omega
      by_cases h2 : room > 65535
      · have k2 : decide (room > 65535) = true := by simpa using h2
        have k2' : decide (65535 < room) = true := by simpa using h2
        have hres : ((bulkB rd bk && (true && decide (-1 ≤ room) && decide (room ≤ 65535))) && (allow || !rd)) = false := by have : decide (room ≤ 65535) = false := (by simp; omega); simp [this]
        rw [hres]
        clear hres hs h1 h2 r1
        go_enter Tryd.func41, Tryd.ntmps41
        go_wp2_with fail
        refine (sizesR_to HS.out HN.out).mono ?_
        rintro e w1 ⟨rfl, hb⟩
        have HB1 := Lib.hid (HB.out.trans (hb.mono HB.out.size))
        have d1 := cellAt hb c1
        have d3 := cellAt hb c3
        have d4 := cellAt hb c4
        clear hb c1 c3 c4
        go_wp2
        go_ret
        exact ⟨rfl, HB1.out⟩
      · have k2 : decide (room > 65535) = false := by simpa using h2
        have k2' : decide (65535 < room) = false := by simpa using h2
        have r2 : decide (room ≤ 65535) = true := by simp; omega
        cases rd
        · have hres : ((bulkB false bk && (true && decide (-1 ≤ room) && decide (room ≤ 65535))) && (allow || !false)) = (bk == 0) := by simp [r1, r2, bulkB]
          rw [hres]
          clear hres hs h1 h2 r1 r2
          go_enter Tryd.func41, Tryd.ntmps41
          go_wp2_with fail
          refine (sizesR_to HS.out HN.out).mono ?_
          rintro e w1 ⟨rfl, hb⟩
          have HB1 := Lib.hid (HB.out.trans (hb.mono HB.out.size))
          have d1 := cellAt hb c1
          have d3 := cellAt hb c3
          have d4 := cellAt hb c4
          clear hb c1 c3 c4
          go_wp2
          go_ret
          exact ⟨rfl, HB1.out⟩
          
        · cases allow
          · have hres : ((bulkB true bk && (true && decide (-1 ≤ room) && decide (room ≤ 65535))) && (false || !true)) = false := by simp
            rw [hres]
            clear hres hs h1 h2 r1 r2
            go_enter Tryd.func41, Tryd.ntmps41
            go_wp2_with fail
            refine (sizesR_to HS.out HN.out).mono ?_
            rintro e w1 ⟨rfl, hb⟩
            have HB1 := Lib.hid (HB.out.trans (hb.mono HB.out.size))
            have d1 := cellAt hb c1
            have d3 := cellAt hb c3
            have d4 := cellAt hb c4
            clear hb c1 c3 c4
            go_wp2
            go_ret
            exact ⟨rfl, HB1.out⟩
            
          · by_cases h3 : 1 ≤ bk
            · have k3 : decide (bk ≥ 1) = true := by simpa using h3
              have k3' : decide (1 ≤ bk) = true := by simpa using h3
              have hres : ((bulkB true bk && (true && decide (-1 ≤ room) && decide (room ≤ 65535))) && (true || !true)) = decide (bk ≤ 65535) := by simp [r1, r2, bulkB, h3]
              rw [hres]
              clear hres hs h1 h2 h3 r1 r2
              go_enter Tryd.func41, Tryd.ntmps41
              go_wp2_with fail
              refine (sizesR_to HS.out HN.out).mono ?_
              rintro e w1 ⟨rfl, hb⟩
              have HB1 := Lib.hid (HB.out.trans (hb.mono HB.out.size))
              have d1 := cellAt hb c1
              have d3 := cellAt hb c3
              have d4 := cellAt hb c4
              clear hb c1 c3 c4
              go_wp2
              go_ret
              exact ⟨rfl, HB1.out⟩
            · have k3 : decide (bk ≥ 1) = false := by simpa using h3
              have k3' : decide (1 ≤ bk) = false := by simpa using h3
              have hres : ((bulkB true bk && (true && decide (-1 ≤ room) && decide (room ≤ 65535))) && (true || !true)) = false := by simp [bulkB, k3']
              rw [hres]
              clear hres hs h1 h2 h3 r1 r2
              go_enter Tryd.func41, Tryd.ntmps41
              go_wp2_with fail
              refine (sizesR_to HS.out HN.out).mono ?_
              rintro e w1 ⟨rfl, hb⟩
              have HB1 := Lib.hid (HB.out.trans (hb.mono HB.out.size))
              have d1 := cellAt hb c1
              have d3 := cellAt hb c3
              have d4 := cellAt hb c4
              clear hb c1 c3 c4
              go_wp2
              go_ret
              exact ⟨rfl, HB1.out⟩

set_option maxHeartbeats 1000000 in
theorem innerN {zs : List Int} {a : Option Addr} {n cap : Nat} {room : Int} {over rd : Bool} {bk : Int} {v : Bool} {w : World} (h : Nums w a n cap zs) (hv : innerB zs room rd bk = v) :
    Calls Tryd.prog 45 #[.agg #[.slice a n cap, .int .i64 room, .bool over, .bool rd, .int .i64 bk]] w (RV w (.bool v)) := by
  subst hv
  obtain ⟨wq, hwq⟩ : ∃ wq, w.alloc (.cells #[.slice a n cap, .int .i64 room, .bool over, .bool rd, .int .i64 bk] 27) = wq := ⟨_, rfl⟩
  have hB : Blk wq w.heap.size [.slice a n cap, .int .i64 room, .bool over, .bool rd, .int .i64 bk] := by rw [← hwq]; exact Blk.new _ _ _
  have HB := Lib.hid (show Below w.heap.size w wq by rw [← hwq]; exact (Below.refl _ w).alloc (Nat.le_refl _) _)
  have HN := Lib.hid (show Nums wq a n cap zs by rw [← hwq]; exact h.alloc _)
  have c0 := hB.cell 0 rfl
  have c1 := hB.cell 1 rfl
  have c3 := hB.cell 3 rfl
  have c4 := hB.cell 4 rfl
  clear hB h
  unfold innerB
  cases rd
  · by_cases h0 : bk = 0
    · have k0 : (bk != 0) = false := by simpa using h0
      have hkb : bulkB false bk = true := by simp [bulkB, h0]
      have HKB := Lib.hid hkb
      clear h0 hkb
      cases hs : sizesB zs
      · have HS := Lib.hid hs
        have hres : (bulkB false bk && (false && decide (-1 ≤ room) && decide (room ≤ 65535))) = false := by simp
        rw [hres]
        clear hres hs
        go_enter Tryd.func45, Tryd.ntmps45
        go_wp2_with fail
        refine (sizesN_to HS.out HN.out).mono ?_
        rintro e w1 ⟨rfl, hb⟩
        have HB1 := Lib.hid (HB.out.trans (hb.mono HB.out.size))
        have d1 := cellAt hb c1
        clear hb c1 c3 c4
        go_wp2
        go_ret
        exact ⟨rfl, HB1.out⟩
      · have HS := Lib.hid hs
        by_cases h1 : -1 ≤ room
        · have k1 : decide (room ≥ -1) = true := by simpa using h1
          have k1' : decide (-1 ≤ room) = true := by simpa using h1
          have hres : (bulkB false bk && (true && decide (-1 ≤ room) && decide (room ≤ 65535))) = decide (room ≤ 65535) := by simp [HKB.out, k1']
          rw [hres]
          clear hres hs h1
          go_enter Tryd.func45, Tryd.ntmps45
          go_wp2_with fail
          refine (sizesN_to HS.out HN.out).mono ?_
          rintro e w1 ⟨rfl, hb⟩
          have HB1 := Lib.hid (HB.out.trans (hb.mono HB.out.size))
          have d1 := cellAt hb c1
          clear hb c1 c3 c4
          go_wp2
          go_ret
          exact ⟨rfl, HB1.out⟩
        · have k1 : decide (room ≥ -1) = false := by simpa using h1
          have k1' : decide (-1 ≤ room) = false := by simpa using h1
          have hres : (bulkB false bk && (true && decide (-1 ≤ room) && decide (room ≤ 65535))) = false := by simp [k1']
          rw [hres]
          clear hres hs h1
          go_enter Tryd.func45, Tryd.ntmps45
          go_wp2_with fail
          refine (sizesN_to HS.out HN.out).mono ?_
          rintro e w1 ⟨rfl, hb⟩
          have HB1 := Lib.hid (HB.out.trans (hb.mono HB.out.size))
          have d1 := cellAt hb c1
          clear hb c1 c3 c4
          go_wp2
          go_ret
          exact ⟨rfl, HB1.out⟩
    · have k0 : (bk != 0) = true := by simpa using h0
      have hres : (bulkB false bk && (sizesB zs && decide (-1 ≤ room) && decide (room ≤ 65535))) = false := by simp [bulkB, h0]
      rw [hres]
      clear hres h0
      go_enter Tryd.func45, Tryd.ntmps45
      go_wp2
      go_ret
      exact ⟨rfl, HB.out⟩
  · by_cases h0 : bk < 1
    · have k0 : decide (bk < 1) = true := by simpa using h0
      have hres : (bulkB true bk && (sizesB zs && decide (-1 ≤ room) && decide (room ≤ 65535))) = false := by have : decide (1 ≤ bk) = false := (by simp; omega); simp [bulkB, this]
      rw [hres]
      clear hres h0
      go_enter Tryd.func45, Tryd.ntmps45
      go_wp2
      go_ret
      exact ⟨rfl, HB.out⟩
    · have k0 : decide (bk < 1) = false := by simpa using h0
      by_cases h9 : bk > 65535
      · have k9 : decide (bk > 65535) = true := by simpa using h9
        have k9' : decide (65535 < bk) = true := by simpa using h9
        have hres : (bulkB true bk && (sizesB zs && decide (-1 ≤ room) && decide (room ≤ 65535))) = false := by have : decide (bk ≤ 65535) = false := (by simp; omega); simp [bulkB, this]
        rw [hres]
        clear hres h0 h9
        go_enter Tryd.func45, Tryd.ntmps45
        go_wp2
        go_ret
        exact ⟨rfl, HB.out⟩
      · have k9 : decide (bk > 65535) = false := by simpa using h9
        have k9' : decide (65535 < bk) = false := by simpa using h9
        have hkb : bulkB true bk = true := by have g1 : decide (1 ≤ bk) = true := (by simp; omega); have g2 : decide (bk ≤ 65535) = true := (by simp; omega); simp [bulkB, g1, g2]
        have HKB := Lib.hid hkb
        clear h0 h9 hkb
        cases hs : sizesB zs
        · have HS := Lib.hid hs
          have hres : (bulkB true bk && (false && decide (-1 ≤ room) && decide (room ≤ 65535))) = false := by simp
          rw [hres]
          clear hres hs
          go_enter Tryd.func45, Tryd.ntmps45
          go_wp2_with fail
          refine (sizesN_to HS.out HN.out).mono ?_
          rintro e w1 ⟨rfl, hb⟩
          have HB1 := Lib.hid (HB.out.trans (hb.mono HB.out.size))
          have d1 := cellAt hb c1
          clear hb c1 c3 c4
          go_wp2
          go_ret
          exact ⟨rfl, HB1.out⟩
        · have HS := Lib.hid hs
          by_cases h1 : -1 ≤ room
          · have k1 : decide (room ≥ -1) = true := by simpa using h1
            have k1' : decide (-1 ≤ room) = true := by simpa using h1
            have hres : (bulkB true bk && (true && decide (-1 ≤ room) && decide (room ≤ 65535))) = decide (room ≤ 65535) := by simp [HKB.out, k1']
            rw [hres]
            clear hres hs h1
            go_enter Tryd.func45, Tryd.ntmps45
            go_wp2_with fail
            refine (sizesN_to HS.out HN.out).mono ?_
            rintro e w1 ⟨rfl, hb⟩
            have HB1 := Lib.hid (HB.out.trans (hb.mono HB.out.size))
            have d1 := cellAt hb c1
            clear hb c1 c3 c4
            go_wp2
            go_ret
            exact ⟨rfl, HB1.out⟩
          · have k1 : decide (room ≥ -1) = false := by simpa using h1
            have k1' : decide (-1 ≤ room) = false := by simpa using h1
            have hres : (bulkB true bk && (true && decide (-1 ≤ room) && decide (room ≤ 65535))) = false := by simp [k1']
            rw [hres]
            clear hres hs h1
            go_enter Tryd.func45, Tryd.ntmps45
            go_wp2_with fail
            refine (sizesN_to HS.out HN.out).mono ?_
            rintro e w1 ⟨rfl, hb⟩
            have HB1 := Lib.hid (HB.out.trans (hb.mono HB.out.size))
            have d1 := cellAt hb c1
            clear hb c1 c3 c4
            go_wp2
            go_ret
            exact ⟨rfl, HB1.out⟩
end Go.Proofs.YtigfgdefgnahpaaDoor

/-
  The walks of Source and Sink (are they fit?; the document's, the code's). Not a statement of the seat.
-/
namespace Go.Proofs.YtigfgdefgnahpaaDoor
open Go.RowKit

def zeroP (p : Pp) : Bool := zeroB p.sn p.room p.over p.rd p.bk
def pipeOK (p : Pp) : Bool := !(decide (p.op < 1)) && !(decide (p.op > 4)) && (p.op == 3 || p.n == 0) && (p.op == 4 || zeroP p) && (p.op != 4 || (innerB p.zs p.room p.rd p.bk && !p.rd))
def srcFit (n : Nat) (zs : List Int) (ps : List Pp) : Bool := !(decide (n > 65535)) && sizesB zs && !(decide (ps.length > 8)) && ps.all pipeOK
def kpOK (p : Pp) : Bool := (p.op == 1 || p.op == 2) && p.n == 0 && zeroP p
def sinkFit (zs : List Int) (room : Int) (rd : Bool) (bk : Int) (qs : List Pp) : Bool := innerB zs room rd bk && !(decide (qs.length > 8)) && qs.all kpOK
theorem all_drop {f : Pp → Bool} {ps : List Pp} {k : Nat} {p : Pp} (h : ps[k]? = some p) : (ps.drop k).all f = (f p && (ps.drop (k + 1)).all f) := by
  have hl := (List.getElem?_eq_some_iff.1 h).1
  have hv := (List.getElem?_eq_some_iff.1 h).2
  rw [List.drop_eq_getElem_cons hl, List.all_cons, hv]
theorem zeroN_to {p : Pp} {v : Bool} (hv : zeroP p = v) (w : World) : Calls Tryd.prog 46 #[.agg #[.slice p.sa p.sn p.sc, .int .i64 p.room, .bool p.over, .bool p.rd, .int .i64 p.bk]] w (RV w (.bool v)) := by
  rw [← hv]; exact zeroN _ _ _ _ _ _ _ _
theorem noneR_to {p : Pp} {v : Bool} (hv : zeroP p = v) (w : World) : Calls Tryd.prog 40 #[.agg #[.slice p.sa p.sn p.sc, .int .i64 p.room, .bool p.over, .bool p.rd, .int .i64 p.bk]] w (RV w (.bool v)) := by
  rw [← hv]; exact noneR _ _ _ _ _ _ _ _

theorem Nums.alloc9 {w : World} {a : Option Addr} {n cap : Nat} {zs : List Int} (h : Nums w a n cap zs) (o : Obj) : Nums (w.alloc o) a n cap zs := Rd.below h ((Below.refl _ _).alloc (Nat.le_refl _) _)

set_option maxRecDepth 100000 in
set_option maxHeartbeats 4000000 in
theorem srcR {dat : ByteArray} {sa pa : Option Addr} {sn sc pn pc : Nat} {zs : List Int} {early broken wr0 v : Bool} {ps : List Pp} {w : World} {r : Own} (hbnd : Bnd w r) (hZ : RdK w r none 1 sa sn sc (I3 zs)) (hP : Pipes w r pa pn pc ps) (hv : srcFit dat.size zs ps = v) :
    Calls Tryd.prog 21 #[.agg #[.string dat, .slice sa sn sc, .bool early, .bool broken, .bool wr0, .slice pa pn pc]] w (RV w (.bool v)) := by
  obtain ⟨wq, hwq⟩ : ∃ wq, w.alloc (.cells #[.string dat, .slice sa sn sc, .bool early, .bool broken, .bool wr0, .slice pa pn pc] 25) = wq := ⟨_, rfl⟩
  have hq0 : Step (fun _ => False) w r wq r := by rw [← hwq]; exact (Step.refl _ hbnd).alloc _
  have hB : Blk wq w.heap.size [.string dat, .slice sa sn sc, .bool early, .bool broken, .bool wr0, .slice pa pn pc] := by rw [← hwq]; exact Blk.new _ _ _
  have HBQ := Lib.hid (show Below w.heap.size w wq by rw [← hwq]; exact (Below.refl _ w).alloc (Nat.le_refl _) _)
  have hPq := hP.step hq0
  have HZ := Lib.hid (show Nums wq sa sn sc zs from (hZ.step hq0 (fun _ h => by cases h)).1)
  have hlen := hP.len
  have hcap := hP.1.1.le
  have hmax := hP.1.1.max
  unfold maxLen at hmax
  have c0 := hB.cell 0 rfl
  have c1 := hB.cell 1 rfl
  have c2 := hB.cell 2 rfl
  have c3 := hB.cell 3 rfl
  have c4 := hB.cell 4 rfl
  have c5 := hB.cell 5 rfl
  have HP := Lib.hid hPq
  have HQ := Lib.hid hq0
  have HL := Lib.hid hlen
  clear hPq hq0 hlen hP hZ hbnd hB
  unfold srcFit at hv
  by_cases hA : dat.size > 65535
  · have kA : decide ((dat.size : Int) > 65535) = true := by simp; omega
    have kA2 : decide (dat.size > 65535) = true := by simpa using hA
    have kA3 : decide (65535 < dat.size) = true := by simpa using hA
    have hv' : v = false := by rw [← hv, kA2]; rfl
    subst hv'
    clear hv hA kA2
    go_enter Tryd.func21, Tryd.ntmps21
    go_wp2_with fail
    go_wp2
    go_ret
    exact ⟨rfl, HBQ.out⟩
  · have kA : decide ((dat.size : Int) > 65535) = false := by simp; omega
    have kA2 : decide (dat.size > 65535) = false := by simpa using hA
    have kA3 : decide (65535 < dat.size) = false := by simpa using hA
    cases hs : sizesB zs
    · have HS := Lib.hid hs
      have hv' : v = false := by rw [← hv, kA2, hs]; rfl
      subst hv'
      clear hv hA kA2 hs
      go_enter Tryd.func21, Tryd.ntmps21
      go_wp2_with fail
      refine (sizesR_to HS.out HZ.out).mono ?_
      rintro e1 w2 ⟨rfl, hb2⟩
      have HB2 := Lib.hid hb2
      clear hb2
      go_wp2
      go_ret
      exact ⟨rfl, HBQ.out.trans (HB2.out.mono HBQ.out.size)⟩
    · have HS := Lib.hid hs
      by_cases h8 : ps.length > 8
      · have k8 : decide (ps.length > 8) = true := by simpa using h8
        have hl9 := HL.out
        have k8i : decide ((pn : Int) > 8) = true := by simp; omega
        have k8n : decide (8 < pn) = true := by simp; omega
        have hv' : v = false := by rw [← hv, kA2, hs, k8]; rfl
        subst hv'
        clear hv hA kA2 hs h8 k8 hl9
        go_enter Tryd.func21, Tryd.ntmps21
        go_wp2_with fail
        refine (sizesR_to HS.out HZ.out).mono ?_
        rintro e1 w2 ⟨rfl, hb2⟩
        have HB2 := Lib.hid hb2
        have d5 := cellAt hb2 c5
        clear hb2
        go_wp2
        go_ret
        exact ⟨rfl, HBQ.out.trans (HB2.out.mono HBQ.out.size)⟩
      · have k8 : decide (ps.length > 8) = false := by simpa using h8
        have hl9 := HL.out
        have k8i : decide ((pn : Int) > 8) = false := by simp; omega
        have k8n : decide (8 < pn) = false := by simp; omega
        have HV := Lib.hid (show v = ps.all pipeOK by rw [← hv, kA2, hs, k8]; rfl)
        clear hv hA kA2 hs h8 k8 hl9
        go_enter Tryd.func21, Tryd.ntmps21
        go_wp2_with fail
        refine (sizesR_to HS.out HZ.out).mono ?_
        rintro e1 w2 ⟨rfl, hb2⟩
        have HB2 := Lib.hid hb2
        have d5 := cellAt hb2 c5
        clear hb2
        go_wp2_with fail
        go_loopw [3] (fun ix wr => ∃ k, k ≤ pn ∧ ix = .int .i64 ((k : Nat) : Int) ∧ Below wq.heap.size wq wr ∧ v = (ps.drop k).all pipeOK) (fun ix _ => pn - (intOf ix).toNat)
        case atStart => exact ⟨0, Nat.zero_le _, rfl, HB2.out, by rw [List.drop_zero]; exact HV.out⟩
        case round =>
          obtain ⟨k, hk, rfl, hbr, heq⟩ := hrel
          have HBR := Lib.hid hbr
          have HEQ := Lib.hid heq
          have cW := cellAt hbr c5
          clear heq
          by_cases hlt : k < pn
          · obtain ⟨b, off, p, hpa, hb, hpk, hmem, hcell⟩ := (HP.out.step ((Step.refl (fun _ => False) HQ.out.bound).calm hbr)).at hlt
            have hpn := ((HP.out.step ((Step.refl (fun _ => False) HQ.out.bound).calm hbr)).2 p hmem).1
            have HPN := Lib.hid (show Nums wr p.sa p.sn p.sc p.zs from hpn)
            have q0 := hcell 0 (by omega)
            have q1 := hcell 1 (by omega)
            have q2 := hcell 2 (by omega)
            have q3 := hcell 3 (by omega)
            have q4 := hcell 4 (by omega)
            have q5 := hcell 5 (by omega)
            have q6 := hcell 6 (by omega)
            simp only [Pp.cells, List.getElem?_cons_zero, List.getElem?_cons_succ, Nat.add_zero] at q0 q1 q2 q3 q4 q5 q6
            subst hpa
            have hki : (k : Int) < pn := by omega
            have HST := Lib.hid (all_drop (f := pipeOK) hpk)
            clear hcell hpk hmem hpn hbr
            by_cases hA : p.op < 1
            · have kA : decide (p.op < 1) = true := by simpa using hA
              have HF := Lib.hid (show pipeOK p = false by unfold pipeOK; rw [kA]; rfl)
              clear hA
              have hff : v = false := by rw [HEQ.out, HST.out, HF.out, Bool.false_and]
              subst hff
              go_wp2
              go_ret
              exact ⟨rfl, (HBQ.out.trans ((HBR.out.alloc HBR.out.size _).mono HBQ.out.size))⟩
            · have kA : decide (p.op < 1) = false := by simpa using hA
              by_cases hB : p.op > 4
              · have kB : decide (p.op > 4) = true := by simpa using hB
                have kB' : decide (4 < p.op) = true := by simpa using hB
                have HF := Lib.hid (show pipeOK p = false by unfold pipeOK; rw [kA, kB]; rfl)
                clear hA hB
                have hff : v = false := by rw [HEQ.out, HST.out, HF.out, Bool.false_and]
                subst hff
                go_wp2
                go_ret
                exact ⟨rfl, (HBQ.out.trans ((HBR.out.alloc HBR.out.size _).mono HBQ.out.size))⟩
              · have kB : decide (p.op > 4) = false := by simpa using hB
                have kB' : decide (4 < p.op) = false := by simpa using hB
                by_cases h3 : p.op = 3
                · have k3 : (p.op != 3) = false := by simpa using h3
                  have k3' : (p.op == 3) = true := by simpa using h3
                  have k4 : (p.op != 4) = true := by simp [h3]
                  have k4' : (p.op == 4) = false := by simp [h3]
                  cases hz : zeroP p
                  · have HZZ := Lib.hid hz
                    have HF := Lib.hid (show pipeOK p = false by unfold pipeOK; rw [kA, kB, k3', k4', HZZ.out]; rfl)
                    clear hA hB h3 hz
                    go_wp2_with fail
                    refine (noneR_to HZZ.out _).mono ?_
                    rintro e1 w5 ⟨rfl, hb5⟩
                    have HC := Lib.hid hb5
                    have m0 := cellAt hb5 ((Blk.new wr #[.int .i64 p.op, .int .i64 p.n, .slice p.sa p.sn p.sc, .int .i64 p.room, .bool p.over, .bool p.rd, .int .i64 p.bk] 43).cell 0 rfl)
                    have m1 := cellAt hb5 ((Blk.new wr #[.int .i64 p.op, .int .i64 p.n, .slice p.sa p.sn p.sc, .int .i64 p.room, .bool p.over, .bool p.rd, .int .i64 p.bk] 43).cell 1 rfl)
                    have m2 := cellAt hb5 ((Blk.new wr #[.int .i64 p.op, .int .i64 p.n, .slice p.sa p.sn p.sc, .int .i64 p.room, .bool p.over, .bool p.rd, .int .i64 p.bk] 43).cell 2 rfl)
                    have m3 := cellAt hb5 ((Blk.new wr #[.int .i64 p.op, .int .i64 p.n, .slice p.sa p.sn p.sc, .int .i64 p.room, .bool p.over, .bool p.rd, .int .i64 p.bk] 43).cell 3 rfl)
                    have m4 := cellAt hb5 ((Blk.new wr #[.int .i64 p.op, .int .i64 p.n, .slice p.sa p.sn p.sc, .int .i64 p.room, .bool p.over, .bool p.rd, .int .i64 p.bk] 43).cell 4 rfl)
                    have m5 := cellAt hb5 ((Blk.new wr #[.int .i64 p.op, .int .i64 p.n, .slice p.sa p.sn p.sc, .int .i64 p.room, .bool p.over, .bool p.rd, .int .i64 p.bk] 43).cell 5 rfl)
                    have m6 := cellAt hb5 ((Blk.new wr #[.int .i64 p.op, .int .i64 p.n, .slice p.sa p.sn p.sc, .int .i64 p.room, .bool p.over, .bool p.rd, .int .i64 p.bk] 43).cell 6 rfl)
                    clear hb5
                    have hff : v = false := by rw [HEQ.out, HST.out, HF.out, Bool.false_and]
                    subst hff
                    go_wp2
                    go_ret
                    exact ⟨rfl, (HBQ.out.trans (((HBR.out.alloc HBR.out.size _).trans (HC.out.mono (by rw [sz_alloc]; have := HBR.out.size; omega))).mono HBQ.out.size))⟩
                  · have HZZ := Lib.hid hz
                    have HF := Lib.hid (show pipeOK p = true by unfold pipeOK; rw [kA, kB, k3', k4', k4, HZZ.out]; rfl)
                    clear hA hB h3 hz
                    go_wp2_with fail
                    refine (noneR_to HZZ.out _).mono ?_
                    rintro e1 w5 ⟨rfl, hb5⟩
                    have HC := Lib.hid hb5
                    have m0 := cellAt hb5 ((Blk.new wr #[.int .i64 p.op, .int .i64 p.n, .slice p.sa p.sn p.sc, .int .i64 p.room, .bool p.over, .bool p.rd, .int .i64 p.bk] 43).cell 0 rfl)
                    have m1 := cellAt hb5 ((Blk.new wr #[.int .i64 p.op, .int .i64 p.n, .slice p.sa p.sn p.sc, .int .i64 p.room, .bool p.over, .bool p.rd, .int .i64 p.bk] 43).cell 1 rfl)
                    have m2 := cellAt hb5 ((Blk.new wr #[.int .i64 p.op, .int .i64 p.n, .slice p.sa p.sn p.sc, .int .i64 p.room, .bool p.over, .bool p.rd, .int .i64 p.bk] 43).cell 2 rfl)
                    have m3 := cellAt hb5 ((Blk.new wr #[.int .i64 p.op, .int .i64 p.n, .slice p.sa p.sn p.sc, .int .i64 p.room, .bool p.over, .bool p.rd, .int .i64 p.bk] 43).cell 3 rfl)
                    have m4 := cellAt hb5 ((Blk.new wr #[.int .i64 p.op, .int .i64 p.n, .slice p.sa p.sn p.sc, .int .i64 p.room, .bool p.over, .bool p.rd, .int .i64 p.bk] 43).cell 4 rfl)
                    have m5 := cellAt hb5 ((Blk.new wr #[.int .i64 p.op, .int .i64 p.n, .slice p.sa p.sn p.sc, .int .i64 p.room, .bool p.over, .bool p.rd, .int .i64 p.bk] 43).cell 5 rfl)
                    have m6 := cellAt hb5 ((Blk.new wr #[.int .i64 p.op, .int .i64 p.n, .slice p.sa p.sn p.sc, .int .i64 p.room, .bool p.over, .bool p.rd, .int .i64 p.bk] 43).cell 6 rfl)
                    clear hb5
                    go_wp2_with fail
                    go_roundw
                    case rel => exact ⟨k + 1, by omega, by go_num, (HBR.out.alloc HBR.out.size _).trans (HC.out.mono (by rw [sz_alloc]; have := HBR.out.size; omega)), by rw [HEQ.out, HST.out, HF.out, Bool.true_and]⟩
                    case measure => simp [intOf]; omega
                · have k3 : (p.op != 3) = true := by simpa using h3
                  have k3' : (p.op == 3) = false := by simpa using h3
                  by_cases hn : p.n = 0
                  · have kn : (p.n != 0) = false := by simpa using hn
                    have kn' : (p.n == 0) = true := by simpa using hn
                    by_cases h4 : p.op = 4
                    · have k4 : (p.op != 4) = false := by simpa using h4
                      have k4' : (p.op == 4) = true := by simpa using h4
                      cases hi : (innerB p.zs p.room p.rd p.bk && !p.rd)
                      · have HI := Lib.hid hi
                        have HI2 := Lib.hid (show (innerB p.zs p.room p.rd p.bk && (false || !p.rd)) = false by rw [Bool.false_or]; exact hi)
                        have HF := Lib.hid (show pipeOK p = false by unfold pipeOK; rw [kA, kB, k3', kn', k4', k4, HI.out]; rfl)
                        clear hA hB h3 hn h4 hi
                        go_wp2_with fail
                        refine (innerR (v := false) (Nums.alloc9 HPN.out _) HI2.out).mono ?_
                        rintro e1 w5 ⟨rfl, hb5⟩
                        have HC := Lib.hid hb5
                        have m0 := cellAt hb5 ((Blk.new wr #[.int .i64 p.op, .int .i64 p.n, .slice p.sa p.sn p.sc, .int .i64 p.room, .bool p.over, .bool p.rd, .int .i64 p.bk] 43).cell 0 rfl)
                        have m1 := cellAt hb5 ((Blk.new wr #[.int .i64 p.op, .int .i64 p.n, .slice p.sa p.sn p.sc, .int .i64 p.room, .bool p.over, .bool p.rd, .int .i64 p.bk] 43).cell 1 rfl)
                        have m2 := cellAt hb5 ((Blk.new wr #[.int .i64 p.op, .int .i64 p.n, .slice p.sa p.sn p.sc, .int .i64 p.room, .bool p.over, .bool p.rd, .int .i64 p.bk] 43).cell 2 rfl)
                        have m3 := cellAt hb5 ((Blk.new wr #[.int .i64 p.op, .int .i64 p.n, .slice p.sa p.sn p.sc, .int .i64 p.room, .bool p.over, .bool p.rd, .int .i64 p.bk] 43).cell 3 rfl)
                        have m4 := cellAt hb5 ((Blk.new wr #[.int .i64 p.op, .int .i64 p.n, .slice p.sa p.sn p.sc, .int .i64 p.room, .bool p.over, .bool p.rd, .int .i64 p.bk] 43).cell 4 rfl)
                        have m5 := cellAt hb5 ((Blk.new wr #[.int .i64 p.op, .int .i64 p.n, .slice p.sa p.sn p.sc, .int .i64 p.room, .bool p.over, .bool p.rd, .int .i64 p.bk] 43).cell 5 rfl)
                        have m6 := cellAt hb5 ((Blk.new wr #[.int .i64 p.op, .int .i64 p.n, .slice p.sa p.sn p.sc, .int .i64 p.room, .bool p.over, .bool p.rd, .int .i64 p.bk] 43).cell 6 rfl)
                        clear hb5
                        have hff : v = false := by rw [HEQ.out, HST.out, HF.out, Bool.false_and]
                        subst hff
                        go_wp2
                        go_ret
                        exact ⟨rfl, (HBQ.out.trans (((HBR.out.alloc HBR.out.size _).trans (HC.out.mono (by rw [sz_alloc]; have := HBR.out.size; omega))).mono HBQ.out.size))⟩
                      · have HI := Lib.hid hi
                        have HI2 := Lib.hid (show (innerB p.zs p.room p.rd p.bk && (false || !p.rd)) = true by rw [Bool.false_or]; exact hi)
                        have HF := Lib.hid (show pipeOK p = true by unfold pipeOK; rw [kA, kB, k3', kn', k4', k4, HI.out]; rfl)
                        clear hA hB h3 hn h4 hi
                        go_wp2_with fail
                        refine (innerR (v := true) (Nums.alloc9 HPN.out _) HI2.out).mono ?_
                        rintro e1 w5 ⟨rfl, hb5⟩
                        have HC := Lib.hid hb5
                        have m0 := cellAt hb5 ((Blk.new wr #[.int .i64 p.op, .int .i64 p.n, .slice p.sa p.sn p.sc, .int .i64 p.room, .bool p.over, .bool p.rd, .int .i64 p.bk] 43).cell 0 rfl)
                        have m1 := cellAt hb5 ((Blk.new wr #[.int .i64 p.op, .int .i64 p.n, .slice p.sa p.sn p.sc, .int .i64 p.room, .bool p.over, .bool p.rd, .int .i64 p.bk] 43).cell 1 rfl)
                        have m2 := cellAt hb5 ((Blk.new wr #[.int .i64 p.op, .int .i64 p.n, .slice p.sa p.sn p.sc, .int .i64 p.room, .bool p.over, .bool p.rd, .int .i64 p.bk] 43).cell 2 rfl)
                        have m3 := cellAt hb5 ((Blk.new wr #[.int .i64 p.op, .int .i64 p.n, .slice p.sa p.sn p.sc, .int .i64 p.room, .bool p.over, .bool p.rd, .int .i64 p.bk] 43).cell 3 rfl)
                        have m4 := cellAt hb5 ((Blk.new wr #[.int .i64 p.op, .int .i64 p.n, .slice p.sa p.sn p.sc, .int .i64 p.room, .bool p.over, .bool p.rd, .int .i64 p.bk] 43).cell 4 rfl)
                        have m5 := cellAt hb5 ((Blk.new wr #[.int .i64 p.op, .int .i64 p.n, .slice p.sa p.sn p.sc, .int .i64 p.room, .bool p.over, .bool p.rd, .int .i64 p.bk] 43).cell 5 rfl)
                        have m6 := cellAt hb5 ((Blk.new wr #[.int .i64 p.op, .int .i64 p.n, .slice p.sa p.sn p.sc, .int .i64 p.room, .bool p.over, .bool p.rd, .int .i64 p.bk] 43).cell 6 rfl)
                        clear hb5
                        go_wp2_with fail
                        go_roundw
                        case rel => exact ⟨k + 1, by omega, by go_num, (HBR.out.alloc HBR.out.size _).trans (HC.out.mono (by rw [sz_alloc]; have := HBR.out.size; omega)), by rw [HEQ.out, HST.out, HF.out, Bool.true_and]⟩
                        case measure => simp [intOf]; omega
                    · have k4 : (p.op != 4) = true := by simpa using h4
                      have k4' : (p.op == 4) = false := by simpa using h4
                      cases hz : zeroP p
                      · have HZZ := Lib.hid hz
                        have HF := Lib.hid (show pipeOK p = false by unfold pipeOK; rw [kA, kB, k3', kn', k4', HZZ.out]; rfl)
                        clear hA hB h3 hn h4 hz
                        go_wp2_with fail
                        refine (noneR_to HZZ.out _).mono ?_
                        rintro e1 w5 ⟨rfl, hb5⟩
                        have HC := Lib.hid hb5
                        have m0 := cellAt hb5 ((Blk.new wr #[.int .i64 p.op, .int .i64 p.n, .slice p.sa p.sn p.sc, .int .i64 p.room, .bool p.over, .bool p.rd, .int .i64 p.bk] 43).cell 0 rfl)
                        have m1 := cellAt hb5 ((Blk.new wr #[.int .i64 p.op, .int .i64 p.n, .slice p.sa p.sn p.sc, .int .i64 p.room, .bool p.over, .bool p.rd, .int .i64 p.bk] 43).cell 1 rfl)
                        have m2 := cellAt hb5 ((Blk.new wr #[.int .i64 p.op, .int .i64 p.n, .slice p.sa p.sn p.sc, .int .i64 p.room, .bool p.over, .bool p.rd, .int .i64 p.bk] 43).cell 2 rfl)
                        have m3 := cellAt hb5 ((Blk.new wr #[.int .i64 p.op, .int .i64 p.n, .slice p.sa p.sn p.sc, .int .i64 p.room, .bool p.over, .bool p.rd, .int .i64 p.bk] 43).cell 3 rfl)
                        have m4 := cellAt hb5 ((Blk.new wr #[.int .i64 p.op, .int .i64 p.n, .slice p.sa p.sn p.sc, .int .i64 p.room, .bool p.over, .bool p.rd, .int .i64 p.bk] 43).cell 4 rfl)
                        have m5 := cellAt hb5 ((Blk.new wr #[.int .i64 p.op, .int .i64 p.n, .slice p.sa p.sn p.sc, .int .i64 p.room, .bool p.over, .bool p.rd, .int .i64 p.bk] 43).cell 5 rfl)
                        have m6 := cellAt hb5 ((Blk.new wr #[.int .i64 p.op, .int .i64 p.n, .slice p.sa p.sn p.sc, .int .i64 p.room, .bool p.over, .bool p.rd, .int .i64 p.bk] 43).cell 6 rfl)
                        clear hb5
                        have hff : v = false := by rw [HEQ.out, HST.out, HF.out, Bool.false_and]
                        subst hff
                        go_wp2
                        go_ret
                        exact ⟨rfl, (HBQ.out.trans (((HBR.out.alloc HBR.out.size _).trans (HC.out.mono (by rw [sz_alloc]; have := HBR.out.size; omega))).mono HBQ.out.size))⟩
                      · have HZZ := Lib.hid hz
                        have HF := Lib.hid (show pipeOK p = true by unfold pipeOK; rw [kA, kB, k3', kn', k4', k4, HZZ.out]; rfl)
                        clear hA hB h3 hn h4 hz
                        go_wp2_with fail
                        refine (noneR_to HZZ.out _).mono ?_
                        rintro e1 w5 ⟨rfl, hb5⟩
                        have HC := Lib.hid hb5
                        have m0 := cellAt hb5 ((Blk.new wr #[.int .i64 p.op, .int .i64 p.n, .slice p.sa p.sn p.sc, .int .i64 p.room, .bool p.over, .bool p.rd, .int .i64 p.bk] 43).cell 0 rfl)
                        have m1 := cellAt hb5 ((Blk.new wr #[.int .i64 p.op, .int .i64 p.n, .slice p.sa p.sn p.sc, .int .i64 p.room, .bool p.over, .bool p.rd, .int .i64 p.bk] 43).cell 1 rfl)
                        have m2 := cellAt hb5 ((Blk.new wr #[.int .i64 p.op, .int .i64 p.n, .slice p.sa p.sn p.sc, .int .i64 p.room, .bool p.over, .bool p.rd, .int .i64 p.bk] 43).cell 2 rfl)
                        have m3 := cellAt hb5 ((Blk.new wr #[.int .i64 p.op, .int .i64 p.n, .slice p.sa p.sn p.sc, .int .i64 p.room, .bool p.over, .bool p.rd, .int .i64 p.bk] 43).cell 3 rfl)
                        have m4 := cellAt hb5 ((Blk.new wr #[.int .i64 p.op, .int .i64 p.n, .slice p.sa p.sn p.sc, .int .i64 p.room, .bool p.over, .bool p.rd, .int .i64 p.bk] 43).cell 4 rfl)
                        have m5 := cellAt hb5 ((Blk.new wr #[.int .i64 p.op, .int .i64 p.n, .slice p.sa p.sn p.sc, .int .i64 p.room, .bool p.over, .bool p.rd, .int .i64 p.bk] 43).cell 5 rfl)
                        have m6 := cellAt hb5 ((Blk.new wr #[.int .i64 p.op, .int .i64 p.n, .slice p.sa p.sn p.sc, .int .i64 p.room, .bool p.over, .bool p.rd, .int .i64 p.bk] 43).cell 6 rfl)
                        clear hb5
                        go_wp2_with fail
                        go_roundw
                        case rel => exact ⟨k + 1, by omega, by go_num, (HBR.out.alloc HBR.out.size _).trans (HC.out.mono (by rw [sz_alloc]; have := HBR.out.size; omega)), by rw [HEQ.out, HST.out, HF.out, Bool.true_and]⟩
                        case measure => simp [intOf]; omega
                  · have kn : (p.n != 0) = true := by simpa using hn
                    have kn' : (p.n == 0) = false := by simpa using hn
                    have HF := Lib.hid (show pipeOK p = false by unfold pipeOK; rw [kA, kB, k3', kn']; rfl)
                    clear hA hB h3 hn
                    have hff : v = false := by rw [HEQ.out, HST.out, HF.out, Bool.false_and]
                    subst hff
                    go_wp2
                    go_ret
                    exact ⟨rfl, (HBQ.out.trans ((HBR.out.alloc HBR.out.size _).mono HBQ.out.size))⟩
          · obtain rfl : k = pn := by omega
            have hff : v = true := by rw [HEQ.out, List.drop_of_length_le (by rw [HL.out]; exact Nat.le_refl _)]; rfl
            subst hff
            have hni : ¬ ((k : Int) < k) := by omega
            clear hbr
            go_wp2
            go_ret
            exact ⟨rfl, HBQ.out.trans (HBR.out.mono HBQ.out.size)⟩

set_option maxRecDepth 100000 in
set_option maxHeartbeats 4000000 in
theorem snkR {ta pa : Option Addr} {tn tc pn pc : Nat} {zs : List Int} {room bk : Int} {over rd v : Bool} {ps : List Pp} {w : World} {r : Own} (hbnd : Bnd w r) (hZ : RdK w r none 1 ta tn tc (I3 zs)) (hP : Pipes w r pa pn pc ps) (hv : sinkFit zs room rd bk ps = v) :
    Calls Tryd.prog 28 #[.agg #[.slice ta tn tc, .int .i64 room, .bool over, .bool rd, .int .i64 bk, .slice pa pn pc]] w (RV w (.bool v)) := by
  obtain ⟨wq, hwq⟩ : ∃ wq, w.alloc (.cells #[.slice ta tn tc, .int .i64 room, .bool over, .bool rd, .int .i64 bk, .slice pa pn pc] 29) = wq := ⟨_, rfl⟩
  have hq0 : Step (fun _ => False) w r wq r := by rw [← hwq]; exact (Step.refl _ hbnd).alloc _
  have hB : Blk wq w.heap.size [.slice ta tn tc, .int .i64 room, .bool over, .bool rd, .int .i64 bk, .slice pa pn pc] := by rw [← hwq]; exact Blk.new _ _ _
  have HBQ := Lib.hid (show Below w.heap.size w wq by rw [← hwq]; exact (Below.refl _ w).alloc (Nat.le_refl _) _)
  have hPq := hP.step hq0
  have HZ := Lib.hid (show Nums wq ta tn tc zs from (hZ.step hq0 (fun _ h => by cases h)).1)
  have hlen := hP.len
  have hcap := hP.1.1.le
  have hmax := hP.1.1.max
  unfold maxLen at hmax
  have c0 := hB.cell 0 rfl
  have c1 := hB.cell 1 rfl
  have c2 := hB.cell 2 rfl
  have c3 := hB.cell 3 rfl
  have c4 := hB.cell 4 rfl
  have c5 := hB.cell 5 rfl
  have HP := Lib.hid hPq
  have HQ := Lib.hid hq0
  have HL := Lib.hid hlen
  clear hPq hq0 hlen hP hZ hbnd hB
  unfold sinkFit at hv
  cases hs : innerB zs room rd bk
  · have HS := Lib.hid hs
    have hv' : v = false := by rw [← hv, hs]; rfl
    subst hv'
    clear hv hs
    go_enter Tryd.func28, Tryd.ntmps28
    go_wp2_with fail
    refine (innerR (v := false) HZ.out (by rw [HS.out]; rfl)).mono ?_
    rintro e1 w2 ⟨rfl, hb2⟩
    have HB2 := Lib.hid hb2
    clear hb2
    go_wp2
    go_ret
    exact ⟨rfl, HBQ.out.trans (HB2.out.mono HBQ.out.size)⟩
  · have HS := Lib.hid hs
    by_cases h8 : ps.length > 8
    · have k8 : decide (ps.length > 8) = true := by simpa using h8
      have hl9 := HL.out
      have k8i : decide ((pn : Int) > 8) = true := by simp; omega
      have k8n : decide (8 < pn) = true := by simp; omega
      have hv' : v = false := by rw [← hv, hs, k8]; rfl
      subst hv'
      clear hv hs h8 k8 hl9
      go_enter Tryd.func28, Tryd.ntmps28
      go_wp2_with fail
      refine (innerR (v := true) HZ.out (by rw [HS.out]; rfl)).mono ?_
      rintro e1 w2 ⟨rfl, hb2⟩
      have HB2 := Lib.hid hb2
      have d5 := cellAt hb2 c5
      clear hb2
      go_wp2
      go_ret
      exact ⟨rfl, HBQ.out.trans (HB2.out.mono HBQ.out.size)⟩
    · have k8 : decide (ps.length > 8) = false := by simpa using h8
      have hl9 := HL.out
      have k8i : decide ((pn : Int) > 8) = false := by simp; omega
      have k8n : decide (8 < pn) = false := by simp; omega
      have HV := Lib.hid (show v = ps.all kpOK by rw [← hv, hs, k8]; rfl)
      clear hv hs h8 k8 hl9
      go_enter Tryd.func28, Tryd.ntmps28
      go_wp2_with fail
      refine (innerR (v := true) HZ.out (by rw [HS.out]; rfl)).mono ?_
      rintro e1 w2 ⟨rfl, hb2⟩
      have HB2 := Lib.hid hb2
      have d5 := cellAt hb2 c5
      clear hb2
      go_wp2_with fail
      go_loopw [3] (fun ix wr => ∃ k, k ≤ pn ∧ ix = .int .i64 ((k : Nat) : Int) ∧ Below wq.heap.size wq wr ∧ v = (ps.drop k).all kpOK) (fun ix _ => pn - (intOf ix).toNat)
      case atStart => exact ⟨0, Nat.zero_le _, rfl, HB2.out, by rw [List.drop_zero]; exact HV.out⟩
      case round =>
        obtain ⟨k, hk, rfl, hbr, heq⟩ := hrel
        have HBR := Lib.hid hbr
        have HEQ := Lib.hid heq
        have cW := cellAt hbr c5
        clear heq
        by_cases hlt : k < pn
        · obtain ⟨b, off, p, hpa, hb, hpk, hmem, hcell⟩ := (HP.out.step ((Step.refl (fun _ => False) HQ.out.bound).calm hbr)).at hlt
          have hpn := ((HP.out.step ((Step.refl (fun _ => False) HQ.out.bound).calm hbr)).2 p hmem).1
          have HPN := Lib.hid (show Nums wr p.sa p.sn p.sc p.zs from hpn)
          have q0 := hcell 0 (by omega)
          have q1 := hcell 1 (by omega)
          have q2 := hcell 2 (by omega)
          have q3 := hcell 3 (by omega)
          have q4 := hcell 4 (by omega)
          have q5 := hcell 5 (by omega)
          have q6 := hcell 6 (by omega)
          simp only [Pp.cells, List.getElem?_cons_zero, List.getElem?_cons_succ, Nat.add_zero] at q0 q1 q2 q3 q4 q5 q6
          subst hpa
          have hki : (k : Int) < pn := by omega
          have HST := Lib.hid (all_drop (f := kpOK) hpk)
          clear hcell hpk hmem hpn hbr
          by_cases h1 : p.op = 1
          · have k1 : (p.op != 1) = false := by simpa using h1
            have k1' : (p.op == 1) = true := by simpa using h1
            by_cases hn : p.n = 0
            · have kn : (p.n != 0) = false := by simpa using hn
              have kn' : (p.n == 0) = true := by simpa using hn
              cases hz : zeroP p
              · have HZZ := Lib.hid hz
                have HF := Lib.hid (show kpOK p = false by unfold kpOK; rw [k1', kn', HZZ.out]; rfl)
                clear h1 hn hz
                go_wp2_with fail
                refine (noneR_to HZZ.out _).mono ?_
                rintro e1 w5 ⟨rfl, hb5⟩
                have HC := Lib.hid hb5
                have m0 := cellAt hb5 ((Blk.new wr #[.int .i64 p.op, .int .i64 p.n, .slice p.sa p.sn p.sc, .int .i64 p.room, .bool p.over, .bool p.rd, .int .i64 p.bk] 43).cell 0 rfl)
                have m1 := cellAt hb5 ((Blk.new wr #[.int .i64 p.op, .int .i64 p.n, .slice p.sa p.sn p.sc, .int .i64 p.room, .bool p.over, .bool p.rd, .int .i64 p.bk] 43).cell 1 rfl)
                have m2 := cellAt hb5 ((Blk.new wr #[.int .i64 p.op, .int .i64 p.n, .slice p.sa p.sn p.sc, .int .i64 p.room, .bool p.over, .bool p.rd, .int .i64 p.bk] 43).cell 2 rfl)
                have m3 := cellAt hb5 ((Blk.new wr #[.int .i64 p.op, .int .i64 p.n, .slice p.sa p.sn p.sc, .int .i64 p.room, .bool p.over, .bool p.rd, .int .i64 p.bk] 43).cell 3 rfl)
                have m4 := cellAt hb5 ((Blk.new wr #[.int .i64 p.op, .int .i64 p.n, .slice p.sa p.sn p.sc, .int .i64 p.room, .bool p.over, .bool p.rd, .int .i64 p.bk] 43).cell 4 rfl)
                have m5 := cellAt hb5 ((Blk.new wr #[.int .i64 p.op, .int .i64 p.n, .slice p.sa p.sn p.sc, .int .i64 p.room, .bool p.over, .bool p.rd, .int .i64 p.bk] 43).cell 5 rfl)
                have m6 := cellAt hb5 ((Blk.new wr #[.int .i64 p.op, .int .i64 p.n, .slice p.sa p.sn p.sc, .int .i64 p.room, .bool p.over, .bool p.rd, .int .i64 p.bk] 43).cell 6 rfl)
                clear hb5
                have hff : v = false := by rw [HEQ.out, HST.out, HF.out, Bool.false_and]
                subst hff
                go_wp2
                go_ret
                exact ⟨rfl, (HBQ.out.trans (((HBR.out.alloc HBR.out.size _).trans (HC.out.mono (by rw [sz_alloc]; have := HBR.out.size; omega))).mono HBQ.out.size))⟩
              · have HZZ := Lib.hid hz
                have HF := Lib.hid (show kpOK p = true by unfold kpOK; rw [k1', kn', HZZ.out]; rfl)
                clear h1 hn hz
                go_wp2_with fail
                refine (noneR_to HZZ.out _).mono ?_
                rintro e1 w5 ⟨rfl, hb5⟩
                have HC := Lib.hid hb5
                have m0 := cellAt hb5 ((Blk.new wr #[.int .i64 p.op, .int .i64 p.n, .slice p.sa p.sn p.sc, .int .i64 p.room, .bool p.over, .bool p.rd, .int .i64 p.bk] 43).cell 0 rfl)
                have m1 := cellAt hb5 ((Blk.new wr #[.int .i64 p.op, .int .i64 p.n, .slice p.sa p.sn p.sc, .int .i64 p.room, .bool p.over, .bool p.rd, .int .i64 p.bk] 43).cell 1 rfl)
                have m2 := cellAt hb5 ((Blk.new wr #[.int .i64 p.op, .int .i64 p.n, .slice p.sa p.sn p.sc, .int .i64 p.room, .bool p.over, .bool p.rd, .int .i64 p.bk] 43).cell 2 rfl)
                have m3 := cellAt hb5 ((Blk.new wr #[.int .i64 p.op, .int .i64 p.n, .slice p.sa p.sn p.sc, .int .i64 p.room, .bool p.over, .bool p.rd, .int .i64 p.bk] 43).cell 3 rfl)
                have m4 := cellAt hb5 ((Blk.new wr #[.int .i64 p.op, .int .i64 p.n, .slice p.sa p.sn p.sc, .int .i64 p.room, .bool p.over, .bool p.rd, .int .i64 p.bk] 43).cell 4 rfl)
                have m5 := cellAt hb5 ((Blk.new wr #[.int .i64 p.op, .int .i64 p.n, .slice p.sa p.sn p.sc, .int .i64 p.room, .bool p.over, .bool p.rd, .int .i64 p.bk] 43).cell 5 rfl)
                have m6 := cellAt hb5 ((Blk.new wr #[.int .i64 p.op, .int .i64 p.n, .slice p.sa p.sn p.sc, .int .i64 p.room, .bool p.over, .bool p.rd, .int .i64 p.bk] 43).cell 6 rfl)
                clear hb5
                go_wp2_with fail
                go_roundw
                case rel => exact ⟨k + 1, by omega, by go_num, (HBR.out.alloc HBR.out.size _).trans (HC.out.mono (by rw [sz_alloc]; have := HBR.out.size; omega)), by rw [HEQ.out, HST.out, HF.out, Bool.true_and]⟩
                case measure => simp [intOf]; omega
            · have kn : (p.n != 0) = true := by simpa using hn
              have kn' : (p.n == 0) = false := by simpa using hn
              have HF := Lib.hid (show kpOK p = false by unfold kpOK; rw [k1', kn']; rfl)
              clear h1 hn
              have hff : v = false := by rw [HEQ.out, HST.out, HF.out, Bool.false_and]
              subst hff
              go_wp2
              go_ret
              exact ⟨rfl, (HBQ.out.trans ((HBR.out.alloc HBR.out.size _).mono HBQ.out.size))⟩
          · have k1 : (p.op != 1) = true := by simpa using h1
            have k1' : (p.op == 1) = false := by simpa using h1
            by_cases h2 : p.op = 2
            · have k2 : (p.op != 2) = false := by simpa using h2
              have k2' : (p.op == 2) = true := by simpa using h2
              by_cases hn : p.n = 0
              · have kn : (p.n != 0) = false := by simpa using hn
                have kn' : (p.n == 0) = true := by simpa using hn
                cases hz : zeroP p
                · have HZZ := Lib.hid hz
                  have HF := Lib.hid (show kpOK p = false by unfold kpOK; rw [k1', k2', kn', HZZ.out]; rfl)
                  clear h1 h2 hn hz
                  go_wp2_with fail
                  refine (noneR_to HZZ.out _).mono ?_
                  rintro e1 w5 ⟨rfl, hb5⟩
                  have HC := Lib.hid hb5
                  have m0 := cellAt hb5 ((Blk.new wr #[.int .i64 p.op, .int .i64 p.n, .slice p.sa p.sn p.sc, .int .i64 p.room, .bool p.over, .bool p.rd, .int .i64 p.bk] 43).cell 0 rfl)
                  have m1 := cellAt hb5 ((Blk.new wr #[.int .i64 p.op, .int .i64 p.n, .slice p.sa p.sn p.sc, .int .i64 p.room, .bool p.over, .bool p.rd, .int .i64 p.bk] 43).cell 1 rfl)
                  have m2 := cellAt hb5 ((Blk.new wr #[.int .i64 p.op, .int .i64 p.n, .slice p.sa p.sn p.sc, .int .i64 p.room, .bool p.over, .bool p.rd, .int .i64 p.bk] 43).cell 2 rfl)
                  have m3 := cellAt hb5 ((Blk.new wr #[.int .i64 p.op, .int .i64 p.n, .slice p.sa p.sn p.sc, .int .i64 p.room, .bool p.over, .bool p.rd, .int .i64 p.bk] 43).cell 3 rfl)
                  have m4 := cellAt hb5 ((Blk.new wr #[.int .i64 p.op, .int .i64 p.n, .slice p.sa p.sn p.sc, .int .i64 p.room, .bool p.over, .bool p.rd, .int .i64 p.bk] 43).cell 4 rfl)
                  have m5 := cellAt hb5 ((Blk.new wr #[.int .i64 p.op, .int .i64 p.n, .slice p.sa p.sn p.sc, .int .i64 p.room, .bool p.over, .bool p.rd, .int .i64 p.bk] 43).cell 5 rfl)
                  have m6 := cellAt hb5 ((Blk.new wr #[.int .i64 p.op, .int .i64 p.n, .slice p.sa p.sn p.sc, .int .i64 p.room, .bool p.over, .bool p.rd, .int .i64 p.bk] 43).cell 6 rfl)
                  clear hb5
                  have hff : v = false := by rw [HEQ.out, HST.out, HF.out, Bool.false_and]
                  subst hff
                  go_wp2
                  go_ret
                  exact ⟨rfl, (HBQ.out.trans (((HBR.out.alloc HBR.out.size _).trans (HC.out.mono (by rw [sz_alloc]; have := HBR.out.size; omega))).mono HBQ.out.size))⟩
                · have HZZ := Lib.hid hz
                  have HF := Lib.hid (show kpOK p = true by unfold kpOK; rw [k1', k2', kn', HZZ.out]; rfl)
                  clear h1 h2 hn hz
                  go_wp2_with fail
                  refine (noneR_to HZZ.out _).mono ?_
                  rintro e1 w5 ⟨rfl, hb5⟩
                  have HC := Lib.hid hb5
                  have m0 := cellAt hb5 ((Blk.new wr #[.int .i64 p.op, .int .i64 p.n, .slice p.sa p.sn p.sc, .int .i64 p.room, .bool p.over, .bool p.rd, .int .i64 p.bk] 43).cell 0 rfl)
                  have m1 := cellAt hb5 ((Blk.new wr #[.int .i64 p.op, .int .i64 p.n, .slice p.sa p.sn p.sc, .int .i64 p.room, .bool p.over, .bool p.rd, .int .i64 p.bk] 43).cell 1 rfl)
                  have m2 := cellAt hb5 ((Blk.new wr #[.int .i64 p.op, .int .i64 p.n, .slice p.sa p.sn p.sc, .int .i64 p.room, .bool p.over, .bool p.rd, .int .i64 p.bk] 43).cell 2 rfl)
                  have m3 := cellAt hb5 ((Blk.new wr #[.int .i64 p.op, .int .i64 p.n, .slice p.sa p.sn p.sc, .int .i64 p.room, .bool p.over, .bool p.rd, .int .i64 p.bk] 43).cell 3 rfl)
                  have m4 := cellAt hb5 ((Blk.new wr #[.int .i64 p.op, .int .i64 p.n, .slice p.sa p.sn p.sc, .int .i64 p.room, .bool p.over, .bool p.rd, .int .i64 p.bk] 43).cell 4 rfl)
                  have m5 := cellAt hb5 ((Blk.new wr #[.int .i64 p.op, .int .i64 p.n, .slice p.sa p.sn p.sc, .int .i64 p.room, .bool p.over, .bool p.rd, .int .i64 p.bk] 43).cell 5 rfl)
                  have m6 := cellAt hb5 ((Blk.new wr #[.int .i64 p.op, .int .i64 p.n, .slice p.sa p.sn p.sc, .int .i64 p.room, .bool p.over, .bool p.rd, .int .i64 p.bk] 43).cell 6 rfl)
                  clear hb5
                  go_wp2_with fail
                  go_roundw
                  case rel => exact ⟨k + 1, by omega, by go_num, (HBR.out.alloc HBR.out.size _).trans (HC.out.mono (by rw [sz_alloc]; have := HBR.out.size; omega)), by rw [HEQ.out, HST.out, HF.out, Bool.true_and]⟩
                  case measure => simp [intOf]; omega
              · have kn : (p.n != 0) = true := by simpa using hn
                have kn' : (p.n == 0) = false := by simpa using hn
                have HF := Lib.hid (show kpOK p = false by unfold kpOK; rw [k1', k2', kn']; rfl)
                clear h1 h2 hn
                have hff : v = false := by rw [HEQ.out, HST.out, HF.out, Bool.false_and]
                subst hff
                go_wp2
                go_ret
                exact ⟨rfl, (HBQ.out.trans ((HBR.out.alloc HBR.out.size _).mono HBQ.out.size))⟩
            · have k2 : (p.op != 2) = true := by simpa using h2
              have k2' : (p.op == 2) = false := by simpa using h2
              have HF := Lib.hid (show kpOK p = false by unfold kpOK; rw [k1', k2']; rfl)
              clear h1 h2
              have hff : v = false := by rw [HEQ.out, HST.out, HF.out, Bool.false_and]
              subst hff
              go_wp2
              go_ret
              exact ⟨rfl, (HBQ.out.trans ((HBR.out.alloc HBR.out.size _).mono HBQ.out.size))⟩
        · obtain rfl : k = pn := by omega
          have hff : v = true := by rw [HEQ.out, List.drop_of_length_le (by rw [HL.out]; exact Nat.le_refl _)]; rfl
          subst hff
          have hni : ¬ ((k : Int) < k) := by omega
          clear hbr
          go_wp2
          go_ret
          exact ⟨rfl, HBQ.out.trans (HBR.out.mono HBQ.out.size)⟩

set_option maxRecDepth 100000 in
set_option maxHeartbeats 4000000 in
theorem srcN {dat : ByteArray} {sa pa : Option Addr} {sn sc pn pc : Nat} {zs : List Int} {early broken wr0 v : Bool} {ps : List Pp} {w : World} {r : Own} (hbnd : Bnd w r) (hZ : RdK w r none 1 sa sn sc (I3 zs)) (hP : Pipes w r pa pn pc ps) (hv : srcFit dat.size zs ps = v) :
    Calls Tryd.prog 26 #[.agg #[.string dat, .slice sa sn sc, .bool early, .bool broken, .bool wr0, .slice pa pn pc]] w (RV w (.bool v)) := by
  obtain ⟨wq, hwq⟩ : ∃ wq, w.alloc (.cells #[.string dat, .slice sa sn sc, .bool early, .bool broken, .bool wr0, .slice pa pn pc] 25) = wq := ⟨_, rfl⟩
  have hq0 : Step (fun _ => False) w r wq r := by rw [← hwq]; exact (Step.refl _ hbnd).alloc _
  have hB : Blk wq w.heap.size [.string dat, .slice sa sn sc, .bool early, .bool broken, .bool wr0, .slice pa pn pc] := by rw [← hwq]; exact Blk.new _ _ _
  have HBQ := Lib.hid (show Below w.heap.size w wq by rw [← hwq]; exact (Below.refl _ w).alloc (Nat.le_refl _) _)
  have hPq := hP.step hq0
  have HZ := Lib.hid (show Nums wq sa sn sc zs from (hZ.step hq0 (fun _ h => by cases h)).1)
  have hlen := hP.len
  have hcap := hP.1.1.le
  have hmax := hP.1.1.max
  unfold maxLen at hmax
  have c0 := hB.cell 0 rfl
  have c1 := hB.cell 1 rfl
  have c2 := hB.cell 2 rfl
  have c3 := hB.cell 3 rfl
  have c4 := hB.cell 4 rfl
  have c5 := hB.cell 5 rfl
  have HP := Lib.hid hPq
  have HQ := Lib.hid hq0
  have HL := Lib.hid hlen
  clear hPq hq0 hlen hP hZ hbnd hB
  unfold srcFit at hv
  by_cases hA : dat.size > 65535
  · have kA : decide ((dat.size : Int) > 65535) = true := by simp; omega
    have kA2 : decide (dat.size > 65535) = true := by simpa using hA
    have kA3 : decide (65535 < dat.size) = true := by simpa using hA
    have hv' : v = false := by rw [← hv, kA2]; rfl
    subst hv'
    clear hv hA kA2
    go_enter Tryd.func26, Tryd.ntmps26
    go_wp2_with fail
    go_wp2
    go_ret
    exact ⟨rfl, HBQ.out⟩
  · have kA : decide ((dat.size : Int) > 65535) = false := by simp; omega
    have kA2 : decide (dat.size > 65535) = false := by simpa using hA
    have kA3 : decide (65535 < dat.size) = false := by simpa using hA
    cases hs : sizesB zs
    · have HS := Lib.hid hs
      have hv' : v = false := by rw [← hv, kA2, hs]; rfl
      subst hv'
      clear hv hA kA2 hs
      go_enter Tryd.func26, Tryd.ntmps26
      go_wp2_with fail
      refine (sizesN_to HS.out HZ.out).mono ?_
      rintro e1 w2 ⟨rfl, hb2⟩
      have HB2 := Lib.hid hb2
      clear hb2
      go_wp2
      go_ret
      exact ⟨rfl, HBQ.out.trans (HB2.out.mono HBQ.out.size)⟩
    · have HS := Lib.hid hs
      by_cases h8 : ps.length > 8
      · have k8 : decide (ps.length > 8) = true := by simpa using h8
        have hl9 := HL.out
        have k8i : decide ((pn : Int) > 8) = true := by simp; omega
        have k8n : decide (8 < pn) = true := by simp; omega
        have hv' : v = false := by rw [← hv, kA2, hs, k8]; rfl
        subst hv'
        clear hv hA kA2 hs h8 k8 hl9
        go_enter Tryd.func26, Tryd.ntmps26
        go_wp2_with fail
        refine (sizesN_to HS.out HZ.out).mono ?_
        rintro e1 w2 ⟨rfl, hb2⟩
        have HB2 := Lib.hid hb2
        have d5 := cellAt hb2 c5
        clear hb2
        go_wp2
        go_ret
        exact ⟨rfl, HBQ.out.trans (HB2.out.mono HBQ.out.size)⟩
      · have k8 : decide (ps.length > 8) = false := by simpa using h8
        have hl9 := HL.out
        have k8i : decide ((pn : Int) > 8) = false := by simp; omega
        have k8n : decide (8 < pn) = false := by simp; omega
        have HV := Lib.hid (show v = ps.all pipeOK by rw [← hv, kA2, hs, k8]; rfl)
        clear hv hA kA2 hs h8 k8 hl9
        go_enter Tryd.func26, Tryd.ntmps26
        go_wp2_with fail
        refine (sizesN_to HS.out HZ.out).mono ?_
        rintro e1 w2 ⟨rfl, hb2⟩
        have HB2 := Lib.hid hb2
        have d5 := cellAt hb2 c5
        clear hb2
        go_wp2_with fail
        go_loopw [24] (fun ix wr => ∃ k, k ≤ pn ∧ ix = .int .i64 ((k : Nat) : Int) ∧ Below wq.heap.size wq wr ∧ v = (ps.drop k).all pipeOK) (fun ix _ => pn - (intOf ix).toNat)
        case atStart => exact ⟨0, Nat.zero_le _, rfl, HB2.out, by rw [List.drop_zero]; exact HV.out⟩
        case round =>
          obtain ⟨k, hk, rfl, hbr, heq⟩ := hrel
          have HBR := Lib.hid hbr
          have HEQ := Lib.hid heq
          have cW := cellAt hbr c5
          clear heq
          by_cases hlt : k < pn
          · obtain ⟨b, off, p, hpa, hb, hpk, hmem, hcell⟩ := (HP.out.step ((Step.refl (fun _ => False) HQ.out.bound).calm hbr)).at hlt
            have hpn := ((HP.out.step ((Step.refl (fun _ => False) HQ.out.bound).calm hbr)).2 p hmem).1
            have HPN := Lib.hid (show Nums wr p.sa p.sn p.sc p.zs from hpn)
            have q0 := hcell 0 (by omega)
            have q1 := hcell 1 (by omega)
            have q2 := hcell 2 (by omega)
            have q3 := hcell 3 (by omega)
            have q4 := hcell 4 (by omega)
            have q5 := hcell 5 (by omega)
            have q6 := hcell 6 (by omega)
            simp only [Pp.cells, List.getElem?_cons_zero, List.getElem?_cons_succ, Nat.add_zero] at q0 q1 q2 q3 q4 q5 q6
            subst hpa
            have hki : (k : Int) < pn := by omega
            have HST := Lib.hid (all_drop (f := pipeOK) hpk)
            clear hcell hpk hmem hpn hbr
            by_cases hA : p.op < 1
            · have kA : decide (p.op < 1) = true := by simpa using hA
              have HF := Lib.hid (show pipeOK p = false by unfold pipeOK; rw [kA]; rfl)
              clear hA
              have hff : v = false := by rw [HEQ.out, HST.out, HF.out, Bool.false_and]
              subst hff
              go_wp2
              go_ret
              exact ⟨rfl, (HBQ.out.trans ((HBR.out.alloc HBR.out.size _).mono HBQ.out.size))⟩
            · have kA : decide (p.op < 1) = false := by simpa using hA
              by_cases hB : p.op > 4
              · have kB : decide (p.op > 4) = true := by simpa using hB
                have kB' : decide (4 < p.op) = true := by simpa using hB
                have HF := Lib.hid (show pipeOK p = false by unfold pipeOK; rw [kA, kB]; rfl)
                clear hA hB
                have hff : v = false := by rw [HEQ.out, HST.out, HF.out, Bool.false_and]
                subst hff
                go_wp2
                go_ret
                exact ⟨rfl, (HBQ.out.trans ((HBR.out.alloc HBR.out.size _).mono HBQ.out.size))⟩
              · have kB : decide (p.op > 4) = false := by simpa using hB
                have kB' : decide (4 < p.op) = false := by simpa using hB
                by_cases h3 : p.op = 3
                · have k3 : (p.op != 3) = false := by simpa using h3
                  have k3' : (p.op == 3) = true := by simpa using h3
                  have k4 : (p.op != 4) = true := by simp [h3]
                  have k4' : (p.op == 4) = false := by simp [h3]
                  cases hz : zeroP p
                  · have HZZ := Lib.hid hz
                    have HF := Lib.hid (show pipeOK p = false by unfold pipeOK; rw [kA, kB, k3', k4', HZZ.out]; rfl)
                    clear hA hB h3 hz
                    go_wp2_with fail
                    refine (zeroN_to HZZ.out _).mono ?_
                    rintro e1 w5 ⟨rfl, hb5⟩
                    have HC := Lib.hid hb5
                    have m0 := cellAt hb5 ((Blk.new wr #[.int .i64 p.op, .int .i64 p.n, .slice p.sa p.sn p.sc, .int .i64 p.room, .bool p.over, .bool p.rd, .int .i64 p.bk] 43).cell 0 rfl)
                    have m1 := cellAt hb5 ((Blk.new wr #[.int .i64 p.op, .int .i64 p.n, .slice p.sa p.sn p.sc, .int .i64 p.room, .bool p.over, .bool p.rd, .int .i64 p.bk] 43).cell 1 rfl)
                    have m2 := cellAt hb5 ((Blk.new wr #[.int .i64 p.op, .int .i64 p.n, .slice p.sa p.sn p.sc, .int .i64 p.room, .bool p.over, .bool p.rd, .int .i64 p.bk] 43).cell 2 rfl)
                    have m3 := cellAt hb5 ((Blk.new wr #[.int .i64 p.op, .int .i64 p.n, .slice p.sa p.sn p.sc, .int .i64 p.room, .bool p.over, .bool p.rd, .int .i64 p.bk] 43).cell 3 rfl)
                    have m4 := cellAt hb5 ((Blk.new wr #[.int .i64 p.op, .int .i64 p.n, .slice p.sa p.sn p.sc, .int .i64 p.room, .bool p.over, .bool p.rd, .int .i64 p.bk] 43).cell 4 rfl)
                    have m5 := cellAt hb5 ((Blk.new wr #[.int .i64 p.op, .int .i64 p.n, .slice p.sa p.sn p.sc, .int .i64 p.room, .bool p.over, .bool p.rd, .int .i64 p.bk] 43).cell 5 rfl)
                    have m6 := cellAt hb5 ((Blk.new wr #[.int .i64 p.op, .int .i64 p.n, .slice p.sa p.sn p.sc, .int .i64 p.room, .bool p.over, .bool p.rd, .int .i64 p.bk] 43).cell 6 rfl)
                    clear hb5
                    have hff : v = false := by rw [HEQ.out, HST.out, HF.out, Bool.false_and]
                    subst hff
                    go_wp2
                    go_ret
                    exact ⟨rfl, (HBQ.out.trans (((HBR.out.alloc HBR.out.size _).trans (HC.out.mono (by rw [sz_alloc]; have := HBR.out.size; omega))).mono HBQ.out.size))⟩
                  · have HZZ := Lib.hid hz
                    have HF := Lib.hid (show pipeOK p = true by unfold pipeOK; rw [kA, kB, k3', k4', k4, HZZ.out]; rfl)
                    clear hA hB h3 hz
                    go_wp2_with fail
                    refine (zeroN_to HZZ.out _).mono ?_
                    rintro e1 w5 ⟨rfl, hb5⟩
                    have HC := Lib.hid hb5
                    have m0 := cellAt hb5 ((Blk.new wr #[.int .i64 p.op, .int .i64 p.n, .slice p.sa p.sn p.sc, .int .i64 p.room, .bool p.over, .bool p.rd, .int .i64 p.bk] 43).cell 0 rfl)
                    have m1 := cellAt hb5 ((Blk.new wr #[.int .i64 p.op, .int .i64 p.n, .slice p.sa p.sn p.sc, .int .i64 p.room, .bool p.over, .bool p.rd, .int .i64 p.bk] 43).cell 1 rfl)
                    have m2 := cellAt hb5 ((Blk.new wr #[.int .i64 p.op, .int .i64 p.n, .slice p.sa p.sn p.sc, .int .i64 p.room, .bool p.over, .bool p.rd, .int .i64 p.bk] 43).cell 2 rfl)
                    have m3 := cellAt hb5 ((Blk.new wr #[.int .i64 p.op, .int .i64 p.n, .slice p.sa p.sn p.sc, .int .i64 p.room, .bool p.over, .bool p.rd, .int .i64 p.bk] 43).cell 3 rfl)
                    have m4 := cellAt hb5 ((Blk.new wr #[.int .i64 p.op, .int .i64 p.n, .slice p.sa p.sn p.sc, .int .i64 p.room, .bool p.over, .bool p.rd, .int .i64 p.bk] 43).cell 4 rfl)
                    have m5 := cellAt hb5 ((Blk.new wr #[.int .i64 p.op, .int .i64 p.n, .slice p.sa p.sn p.sc, .int .i64 p.room, .bool p.over, .bool p.rd, .int .i64 p.bk] 43).cell 5 rfl)
                    have m6 := cellAt hb5 ((Blk.new wr #[.int .i64 p.op, .int .i64 p.n, .slice p.sa p.sn p.sc, .int .i64 p.room, .bool p.over, .bool p.rd, .int .i64 p.bk] 43).cell 6 rfl)
                    clear hb5
                    go_wp2_with fail
                    go_roundw
                    case rel => exact ⟨k + 1, by omega, by go_num, (HBR.out.alloc HBR.out.size _).trans (HC.out.mono (by rw [sz_alloc]; have := HBR.out.size; omega)), by rw [HEQ.out, HST.out, HF.out, Bool.true_and]⟩
                    case measure => simp [intOf]; omega
                · have k3 : (p.op != 3) = true := by simpa using h3
                  have k3' : (p.op == 3) = false := by simpa using h3
                  by_cases hn : p.n = 0
                  · have kn : (p.n != 0) = false := by simpa using hn
                    have kn' : (p.n == 0) = true := by simpa using hn
                    by_cases h4 : p.op = 4
                    · have k4 : (p.op != 4) = false := by simpa using h4
                      have k4' : (p.op == 4) = true := by simpa using h4
                      cases hi : innerB p.zs p.room p.rd p.bk
                      · have HI := Lib.hid hi
                        have HF := Lib.hid (show pipeOK p = false by unfold pipeOK; rw [kA, kB, k3', kn', k4', k4, HI.out]; rfl)
                        clear hA hB h3 hn h4 hi
                        go_wp2_with fail
                        refine (innerN (v := false) (Nums.alloc9 HPN.out _) HI.out).mono ?_
                        rintro e1 w5 ⟨rfl, hb5⟩
                        have HC := Lib.hid hb5
                        have m0 := cellAt hb5 ((Blk.new wr #[.int .i64 p.op, .int .i64 p.n, .slice p.sa p.sn p.sc, .int .i64 p.room, .bool p.over, .bool p.rd, .int .i64 p.bk] 43).cell 0 rfl)
                        have m1 := cellAt hb5 ((Blk.new wr #[.int .i64 p.op, .int .i64 p.n, .slice p.sa p.sn p.sc, .int .i64 p.room, .bool p.over, .bool p.rd, .int .i64 p.bk] 43).cell 1 rfl)
                        have m2 := cellAt hb5 ((Blk.new wr #[.int .i64 p.op, .int .i64 p.n, .slice p.sa p.sn p.sc, .int .i64 p.room, .bool p.over, .bool p.rd, .int .i64 p.bk] 43).cell 2 rfl)
                        have m3 := cellAt hb5 ((Blk.new wr #[.int .i64 p.op, .int .i64 p.n, .slice p.sa p.sn p.sc, .int .i64 p.room, .bool p.over, .bool p.rd, .int .i64 p.bk] 43).cell 3 rfl)
                        have m4 := cellAt hb5 ((Blk.new wr #[.int .i64 p.op, .int .i64 p.n, .slice p.sa p.sn p.sc, .int .i64 p.room, .bool p.over, .bool p.rd, .int .i64 p.bk] 43).cell 4 rfl)
                        have m5 := cellAt hb5 ((Blk.new wr #[.int .i64 p.op, .int .i64 p.n, .slice p.sa p.sn p.sc, .int .i64 p.room, .bool p.over, .bool p.rd, .int .i64 p.bk] 43).cell 5 rfl)
                        have m6 := cellAt hb5 ((Blk.new wr #[.int .i64 p.op, .int .i64 p.n, .slice p.sa p.sn p.sc, .int .i64 p.room, .bool p.over, .bool p.rd, .int .i64 p.bk] 43).cell 6 rfl)
                        clear hb5
                        have hff : v = false := by rw [HEQ.out, HST.out, HF.out, Bool.false_and]
                        subst hff
                        go_wp2
                        go_ret
                        exact ⟨rfl, (HBQ.out.trans (((HBR.out.alloc HBR.out.size _).trans (HC.out.mono (by rw [sz_alloc]; have := HBR.out.size; omega))).mono HBQ.out.size))⟩
                      · cases hr : p.rd
                        · rw [hr] at q5 hi
                          have HI := Lib.hid hi
                          have HR := Lib.hid hr
                          have HF := Lib.hid (show pipeOK p = true by unfold pipeOK; rw [kA, kB, k3', kn', k4', k4, HR.out, HI.out]; rfl)
                          clear hA hB h3 hn h4 hi hr
                          go_wp2_with fail
                          refine (innerN (v := true) (Nums.alloc9 HPN.out _) HI.out).mono ?_
                          rintro e1 w5 ⟨rfl, hb5⟩
                          have HC := Lib.hid hb5
                          have m0 := cellAt hb5 ((Blk.new wr #[.int .i64 p.op, .int .i64 p.n, .slice p.sa p.sn p.sc, .int .i64 p.room, .bool p.over, .bool false, .int .i64 p.bk] 43).cell 0 rfl)
                          have m1 := cellAt hb5 ((Blk.new wr #[.int .i64 p.op, .int .i64 p.n, .slice p.sa p.sn p.sc, .int .i64 p.room, .bool p.over, .bool false, .int .i64 p.bk] 43).cell 1 rfl)
                          have m2 := cellAt hb5 ((Blk.new wr #[.int .i64 p.op, .int .i64 p.n, .slice p.sa p.sn p.sc, .int .i64 p.room, .bool p.over, .bool false, .int .i64 p.bk] 43).cell 2 rfl)
                          have m3 := cellAt hb5 ((Blk.new wr #[.int .i64 p.op, .int .i64 p.n, .slice p.sa p.sn p.sc, .int .i64 p.room, .bool p.over, .bool false, .int .i64 p.bk] 43).cell 3 rfl)
                          have m4 := cellAt hb5 ((Blk.new wr #[.int .i64 p.op, .int .i64 p.n, .slice p.sa p.sn p.sc, .int .i64 p.room, .bool p.over, .bool false, .int .i64 p.bk] 43).cell 4 rfl)
                          have m5 := cellAt hb5 ((Blk.new wr #[.int .i64 p.op, .int .i64 p.n, .slice p.sa p.sn p.sc, .int .i64 p.room, .bool p.over, .bool false, .int .i64 p.bk] 43).cell 5 rfl)
                          have m6 := cellAt hb5 ((Blk.new wr #[.int .i64 p.op, .int .i64 p.n, .slice p.sa p.sn p.sc, .int .i64 p.room, .bool p.over, .bool false, .int .i64 p.bk] 43).cell 6 rfl)
                          clear hb5
                          go_wp2_with fail
                          go_roundw
                          case rel => exact ⟨k + 1, by omega, by go_num, (HBR.out.alloc HBR.out.size _).trans (HC.out.mono (by rw [sz_alloc]; have := HBR.out.size; omega)), by rw [HEQ.out, HST.out, HF.out, Bool.true_and]⟩
                          case measure => simp [intOf]; omega
                        · rw [hr] at q5 hi
                          have HI := Lib.hid hi
                          have HR := Lib.hid hr
                          have HF := Lib.hid (show pipeOK p = false by unfold pipeOK; rw [kA, kB, k3', kn', k4', k4, HR.out, HI.out]; rfl)
                          clear hA hB h3 hn h4 hi hr
                          go_wp2_with fail
                          refine (innerN (v := true) (Nums.alloc9 HPN.out _) HI.out).mono ?_
                          rintro e1 w5 ⟨rfl, hb5⟩
                          have HC := Lib.hid hb5
                          have m0 := cellAt hb5 ((Blk.new wr #[.int .i64 p.op, .int .i64 p.n, .slice p.sa p.sn p.sc, .int .i64 p.room, .bool p.over, .bool true, .int .i64 p.bk] 43).cell 0 rfl)
                          have m1 := cellAt hb5 ((Blk.new wr #[.int .i64 p.op, .int .i64 p.n, .slice p.sa p.sn p.sc, .int .i64 p.room, .bool p.over, .bool true, .int .i64 p.bk] 43).cell 1 rfl)
                          have m2 := cellAt hb5 ((Blk.new wr #[.int .i64 p.op, .int .i64 p.n, .slice p.sa p.sn p.sc, .int .i64 p.room, .bool p.over, .bool true, .int .i64 p.bk] 43).cell 2 rfl)
                          have m3 := cellAt hb5 ((Blk.new wr #[.int .i64 p.op, .int .i64 p.n, .slice p.sa p.sn p.sc, .int .i64 p.room, .bool p.over, .bool true, .int .i64 p.bk] 43).cell 3 rfl)
                          have m4 := cellAt hb5 ((Blk.new wr #[.int .i64 p.op, .int .i64 p.n, .slice p.sa p.sn p.sc, .int .i64 p.room, .bool p.over, .bool true, .int .i64 p.bk] 43).cell 4 rfl)
                          have m5 := cellAt hb5 ((Blk.new wr #[.int .i64 p.op, .int .i64 p.n, .slice p.sa p.sn p.sc, .int .i64 p.room, .bool p.over, .bool true, .int .i64 p.bk] 43).cell 5 rfl)
                          have m6 := cellAt hb5 ((Blk.new wr #[.int .i64 p.op, .int .i64 p.n, .slice p.sa p.sn p.sc, .int .i64 p.room, .bool p.over, .bool true, .int .i64 p.bk] 43).cell 6 rfl)
                          clear hb5
                          have hff : v = false := by rw [HEQ.out, HST.out, HF.out, Bool.false_and]
                          subst hff
                          go_wp2
                          go_ret
                          exact ⟨rfl, (HBQ.out.trans (((HBR.out.alloc HBR.out.size _).trans (HC.out.mono (by rw [sz_alloc]; have := HBR.out.size; omega))).mono HBQ.out.size))⟩
                    · have k4 : (p.op != 4) = true := by simpa using h4
                      have k4' : (p.op == 4) = false := by simpa using h4
                      cases hz : zeroP p
                      · have HZZ := Lib.hid hz
                        have HF := Lib.hid (show pipeOK p = false by unfold pipeOK; rw [kA, kB, k3', kn', k4', HZZ.out]; rfl)
                        clear hA hB h3 hn h4 hz
                        go_wp2_with fail
                        refine (zeroN_to HZZ.out _).mono ?_
                        rintro e1 w5 ⟨rfl, hb5⟩
                        have HC := Lib.hid hb5
                        have m0 := cellAt hb5 ((Blk.new wr #[.int .i64 p.op, .int .i64 p.n, .slice p.sa p.sn p.sc, .int .i64 p.room, .bool p.over, .bool p.rd, .int .i64 p.bk] 43).cell 0 rfl)
                        have m1 := cellAt hb5 ((Blk.new wr #[.int .i64 p.op, .int .i64 p.n, .slice p.sa p.sn p.sc, .int .i64 p.room, .bool p.over, .bool p.rd, .int .i64 p.bk] 43).cell 1 rfl)
                        have m2 := cellAt hb5 ((Blk.new wr #[.int .i64 p.op, .int .i64 p.n, .slice p.sa p.sn p.sc, .int .i64 p.room, .bool p.over, .bool p.rd, .int .i64 p.bk] 43).cell 2 rfl)
                        have m3 := cellAt hb5 ((Blk.new wr #[.int .i64 p.op, .int .i64 p.n, .slice p.sa p.sn p.sc, .int .i64 p.room, .bool p.over, .bool p.rd, .int .i64 p.bk] 43).cell 3 rfl)
                        have m4 := cellAt hb5 ((Blk.new wr #[.int .i64 p.op, .int .i64 p.n, .slice p.sa p.sn p.sc, .int .i64 p.room, .bool p.over, .bool p.rd, .int .i64 p.bk] 43).cell 4 rfl)
                        have m5 := cellAt hb5 ((Blk.new wr #[.int .i64 p.op, .int .i64 p.n, .slice p.sa p.sn p.sc, .int .i64 p.room, .bool p.over, .bool p.rd, .int .i64 p.bk] 43).cell 5 rfl)
                        have m6 := cellAt hb5 ((Blk.new wr #[.int .i64 p.op, .int .i64 p.n, .slice p.sa p.sn p.sc, .int .i64 p.room, .bool p.over, .bool p.rd, .int .i64 p.bk] 43).cell 6 rfl)
                        clear hb5
                        have hff : v = false := by rw [HEQ.out, HST.out, HF.out, Bool.false_and]
                        subst hff
                        go_wp2
                        go_ret
                        exact ⟨rfl, (HBQ.out.trans (((HBR.out.alloc HBR.out.size _).trans (HC.out.mono (by rw [sz_alloc]; have := HBR.out.size; omega))).mono HBQ.out.size))⟩
                      · have HZZ := Lib.hid hz
                        have HF := Lib.hid (show pipeOK p = true by unfold pipeOK; rw [kA, kB, k3', kn', k4', k4, HZZ.out]; rfl)
                        clear hA hB h3 hn h4 hz
                        go_wp2_with fail
                        refine (zeroN_to HZZ.out _).mono ?_
                        rintro e1 w5 ⟨rfl, hb5⟩
                        have HC := Lib.hid hb5
                        have m0 := cellAt hb5 ((Blk.new wr #[.int .i64 p.op, .int .i64 p.n, .slice p.sa p.sn p.sc, .int .i64 p.room, .bool p.over, .bool p.rd, .int .i64 p.bk] 43).cell 0 rfl)
                        have m1 := cellAt hb5 ((Blk.new wr #[.int .i64 p.op, .int .i64 p.n, .slice p.sa p.sn p.sc, .int .i64 p.room, .bool p.over, .bool p.rd, .int .i64 p.bk] 43).cell 1 rfl)
                        have m2 := cellAt hb5 ((Blk.new wr #[.int .i64 p.op, .int .i64 p.n, .slice p.sa p.sn p.sc, .int .i64 p.room, .bool p.over, .bool p.rd, .int .i64 p.bk] 43).cell 2 rfl)
                        have m3 := cellAt hb5 ((Blk.new wr #[.int .i64 p.op, .int .i64 p.n, .slice p.sa p.sn p.sc, .int .i64 p.room, .bool p.over, .bool p.rd, .int .i64 p.bk] 43).cell 3 rfl)
                        have m4 := cellAt hb5 ((Blk.new wr #[.int .i64 p.op, .int .i64 p.n, .slice p.sa p.sn p.sc, .int .i64 p.room, .bool p.over, .bool p.rd, .int .i64 p.bk] 43).cell 4 rfl)
                        have m5 := cellAt hb5 ((Blk.new wr #[.int .i64 p.op, .int .i64 p.n, .slice p.sa p.sn p.sc, .int .i64 p.room, .bool p.over, .bool p.rd, .int .i64 p.bk] 43).cell 5 rfl)
                        have m6 := cellAt hb5 ((Blk.new wr #[.int .i64 p.op, .int .i64 p.n, .slice p.sa p.sn p.sc, .int .i64 p.room, .bool p.over, .bool p.rd, .int .i64 p.bk] 43).cell 6 rfl)
                        clear hb5
                        go_wp2_with fail
                        go_roundw
                        case rel => exact ⟨k + 1, by omega, by go_num, (HBR.out.alloc HBR.out.size _).trans (HC.out.mono (by rw [sz_alloc]; have := HBR.out.size; omega)), by rw [HEQ.out, HST.out, HF.out, Bool.true_and]⟩
                        case measure => simp [intOf]; omega
                  · have kn : (p.n != 0) = true := by simpa using hn
                    have kn' : (p.n == 0) = false := by simpa using hn
                    have HF := Lib.hid (show pipeOK p = false by unfold pipeOK; rw [kA, kB, k3', kn']; rfl)
                    clear hA hB h3 hn
                    have hff : v = false := by rw [HEQ.out, HST.out, HF.out, Bool.false_and]
                    subst hff
                    go_wp2
                    go_ret
                    exact ⟨rfl, (HBQ.out.trans ((HBR.out.alloc HBR.out.size _).mono HBQ.out.size))⟩
          · obtain rfl : k = pn := by omega
            have hff : v = true := by rw [HEQ.out, List.drop_of_length_le (by rw [HL.out]; exact Nat.le_refl _)]; rfl
            subst hff
            have hni : ¬ ((k : Int) < k) := by omega
            clear hbr
            go_wp2
            go_ret
            exact ⟨rfl, HBQ.out.trans (HBR.out.mono HBQ.out.size)⟩

set_option maxRecDepth 100000 in
set_option maxHeartbeats 4000000 in
theorem snkN {ta pa : Option Addr} {tn tc pn pc : Nat} {zs : List Int} {room bk : Int} {over rd v : Bool} {ps : List Pp} {w : World} {r : Own} (hbnd : Bnd w r) (hZ : RdK w r none 1 ta tn tc (I3 zs)) (hP : Pipes w r pa pn pc ps) (hv : sinkFit zs room rd bk ps = v) :
    Calls Tryd.prog 27 #[.agg #[.slice ta tn tc, .int .i64 room, .bool over, .bool rd, .int .i64 bk, .slice pa pn pc]] w (RV w (.bool v)) := by
  obtain ⟨wq, hwq⟩ : ∃ wq, w.alloc (.cells #[.slice ta tn tc, .int .i64 room, .bool over, .bool rd, .int .i64 bk, .slice pa pn pc] 29) = wq := ⟨_, rfl⟩
  have hq0 : Step (fun _ => False) w r wq r := by rw [← hwq]; exact (Step.refl _ hbnd).alloc _
  have hB : Blk wq w.heap.size [.slice ta tn tc, .int .i64 room, .bool over, .bool rd, .int .i64 bk, .slice pa pn pc] := by rw [← hwq]; exact Blk.new _ _ _
  have HBQ := Lib.hid (show Below w.heap.size w wq by rw [← hwq]; exact (Below.refl _ w).alloc (Nat.le_refl _) _)
  have hPq := hP.step hq0
  have HZ := Lib.hid (show Nums wq ta tn tc zs from (hZ.step hq0 (fun _ h => by cases h)).1)
  have hlen := hP.len
  have hcap := hP.1.1.le
  have hmax := hP.1.1.max
  unfold maxLen at hmax
  have c0 := hB.cell 0 rfl
  have c1 := hB.cell 1 rfl
  have c2 := hB.cell 2 rfl
  have c3 := hB.cell 3 rfl
  have c4 := hB.cell 4 rfl
  have c5 := hB.cell 5 rfl
  have HP := Lib.hid hPq
  have HQ := Lib.hid hq0
  have HL := Lib.hid hlen
  clear hPq hq0 hlen hP hZ hbnd hB
  unfold sinkFit at hv
  cases hs : innerB zs room rd bk
  · have HS := Lib.hid hs
    have hv' : v = false := by rw [← hv, hs]; rfl
    subst hv'
    clear hv hs
    go_enter Tryd.func27, Tryd.ntmps27
    go_wp2_with fail
    refine (innerN (v := false) HZ.out HS.out).mono ?_
    rintro e1 w2 ⟨rfl, hb2⟩
    have HB2 := Lib.hid hb2
    clear hb2
    go_wp2
    go_ret
    exact ⟨rfl, HBQ.out.trans (HB2.out.mono HBQ.out.size)⟩
  · have HS := Lib.hid hs
    by_cases h8 : ps.length > 8
    · have k8 : decide (ps.length > 8) = true := by simpa using h8
      have hl9 := HL.out
      have k8i : decide ((pn : Int) > 8) = true := by simp; omega
      have k8n : decide (8 < pn) = true := by simp; omega
      have hv' : v = false := by rw [← hv, hs, k8]; rfl
      subst hv'
      clear hv hs h8 k8 hl9
      go_enter Tryd.func27, Tryd.ntmps27
      go_wp2_with fail
      refine (innerN (v := true) HZ.out HS.out).mono ?_
      rintro e1 w2 ⟨rfl, hb2⟩
      have HB2 := Lib.hid hb2
      have d5 := cellAt hb2 c5
      clear hb2
      go_wp2
      go_ret
      exact ⟨rfl, HBQ.out.trans (HB2.out.mono HBQ.out.size)⟩
    · have k8 : decide (ps.length > 8) = false := by simpa using h8
      have hl9 := HL.out
      have k8i : decide ((pn : Int) > 8) = false := by simp; omega
      have k8n : decide (8 < pn) = false := by simp; omega
      have HV := Lib.hid (show v = ps.all kpOK by rw [← hv, hs, k8]; rfl)
      clear hv hs h8 k8 hl9
      go_enter Tryd.func27, Tryd.ntmps27
      go_wp2_with fail
      refine (innerN (v := true) HZ.out HS.out).mono ?_
      rintro e1 w2 ⟨rfl, hb2⟩
      have HB2 := Lib.hid hb2
      have d5 := cellAt hb2 c5
      clear hb2
      go_wp2_with fail
      go_loopw [18] (fun ix wr => ∃ k, k ≤ pn ∧ ix = .int .i64 ((k : Nat) : Int) ∧ Below wq.heap.size wq wr ∧ v = (ps.drop k).all kpOK) (fun ix _ => pn - (intOf ix).toNat)
      case atStart => exact ⟨0, Nat.zero_le _, rfl, HB2.out, by rw [List.drop_zero]; exact HV.out⟩
      case round =>
        obtain ⟨k, hk, rfl, hbr, heq⟩ := hrel
        have HBR := Lib.hid hbr
        have HEQ := Lib.hid heq
        have cW := cellAt hbr c5
        clear heq
        by_cases hlt : k < pn
        · obtain ⟨b, off, p, hpa, hb, hpk, hmem, hcell⟩ := (HP.out.step ((Step.refl (fun _ => False) HQ.out.bound).calm hbr)).at hlt
          have hpn := ((HP.out.step ((Step.refl (fun _ => False) HQ.out.bound).calm hbr)).2 p hmem).1
          have HPN := Lib.hid (show Nums wr p.sa p.sn p.sc p.zs from hpn)
          have q0 := hcell 0 (by omega)
          have q1 := hcell 1 (by omega)
          have q2 := hcell 2 (by omega)
          have q3 := hcell 3 (by omega)
          have q4 := hcell 4 (by omega)
          have q5 := hcell 5 (by omega)
          have q6 := hcell 6 (by omega)
          simp only [Pp.cells, List.getElem?_cons_zero, List.getElem?_cons_succ, Nat.add_zero] at q0 q1 q2 q3 q4 q5 q6
          subst hpa
          have hki : (k : Int) < pn := by omega
          have HST := Lib.hid (all_drop (f := kpOK) hpk)
          clear hcell hpk hmem hpn hbr
          by_cases h1 : p.op = 1
          · have k1 : (p.op != 1) = false := by simpa using h1
            have k1' : (p.op == 1) = true := by simpa using h1
            by_cases hn : p.n = 0
            · have kn : (p.n != 0) = false := by simpa using hn
              have kn' : (p.n == 0) = true := by simpa using hn
              cases hz : zeroP p
              · have HZZ := Lib.hid hz
                have HF := Lib.hid (show kpOK p = false by unfold kpOK; rw [k1', kn', HZZ.out]; rfl)
                clear h1 hn hz
                go_wp2_with fail
                refine (zeroN_to HZZ.out _).mono ?_
                rintro e1 w5 ⟨rfl, hb5⟩
                have HC := Lib.hid hb5
                have m0 := cellAt hb5 ((Blk.new wr #[.int .i64 p.op, .int .i64 p.n, .slice p.sa p.sn p.sc, .int .i64 p.room, .bool p.over, .bool p.rd, .int .i64 p.bk] 43).cell 0 rfl)
                have m1 := cellAt hb5 ((Blk.new wr #[.int .i64 p.op, .int .i64 p.n, .slice p.sa p.sn p.sc, .int .i64 p.room, .bool p.over, .bool p.rd, .int .i64 p.bk] 43).cell 1 rfl)
                have m2 := cellAt hb5 ((Blk.new wr #[.int .i64 p.op, .int .i64 p.n, .slice p.sa p.sn p.sc, .int .i64 p.room, .bool p.over, .bool p.rd, .int .i64 p.bk] 43).cell 2 rfl)
                have m3 := cellAt hb5 ((Blk.new wr #[.int .i64 p.op, .int .i64 p.n, .slice p.sa p.sn p.sc, .int .i64 p.room, .bool p.over, .bool p.rd, .int .i64 p.bk] 43).cell 3 rfl)
                have m4 := cellAt hb5 ((Blk.new wr #[.int .i64 p.op, .int .i64 p.n, .slice p.sa p.sn p.sc, .int .i64 p.room, .bool p.over, .bool p.rd, .int .i64 p.bk] 43).cell 4 rfl)
                have m5 := cellAt hb5 ((Blk.new wr #[.int .i64 p.op, .int .i64 p.n, .slice p.sa p.sn p.sc, .int .i64 p.room, .bool p.over, .bool p.rd, .int .i64 p.bk] 43).cell 5 rfl)
                have m6 := cellAt hb5 ((Blk.new wr #[.int .i64 p.op, .int .i64 p.n, .slice p.sa p.sn p.sc, .int .i64 p.room, .bool p.over, .bool p.rd, .int .i64 p.bk] 43).cell 6 rfl)
                clear hb5
                have hff : v = false := by rw [HEQ.out, HST.out, HF.out, Bool.false_and]
                subst hff
                go_wp2
                go_ret
                exact ⟨rfl, (HBQ.out.trans (((HBR.out.alloc HBR.out.size _).trans (HC.out.mono (by rw [sz_alloc]; have := HBR.out.size; omega))).mono HBQ.out.size))⟩
              · have HZZ := Lib.hid hz
                have HF := Lib.hid (show kpOK p = true by unfold kpOK; rw [k1', kn', HZZ.out]; rfl)
                clear h1 hn hz
                go_wp2_with fail
                refine (zeroN_to HZZ.out _).mono ?_
                rintro e1 w5 ⟨rfl, hb5⟩
                have HC := Lib.hid hb5
                have m0 := cellAt hb5 ((Blk.new wr #[.int .i64 p.op, .int .i64 p.n, .slice p.sa p.sn p.sc, .int .i64 p.room, .bool p.over, .bool p.rd, .int .i64 p.bk] 43).cell 0 rfl)
                have m1 := cellAt hb5 ((Blk.new wr #[.int .i64 p.op, .int .i64 p.n, .slice p.sa p.sn p.sc, .int .i64 p.room, .bool p.over, .bool p.rd, .int .i64 p.bk] 43).cell 1 rfl)
                have m2 := cellAt hb5 ((Blk.new wr #[.int .i64 p.op, .int .i64 p.n, .slice p.sa p.sn p.sc, .int .i64 p.room, .bool p.over, .bool p.rd, .int .i64 p.bk] 43).cell 2 rfl)
                have m3 := cellAt hb5 ((Blk.new wr #[.int .i64 p.op, .int .i64 p.n, .slice p.sa p.sn p.sc, .int .i64 p.room, .bool p.over, .bool p.rd, .int .i64 p.bk] 43).cell 3 rfl)
                have m4 := cellAt hb5 ((Blk.new wr #[.int .i64 p.op, .int .i64 p.n, .slice p.sa p.sn p.sc, .int .i64 p.room, .bool p.over, .bool p.rd, .int .i64 p.bk] 43).cell 4 rfl)
                have m5 := cellAt hb5 ((Blk.new wr #[.int .i64 p.op, .int .i64 p.n, .slice p.sa p.sn p.sc, .int .i64 p.room, .bool p.over, .bool p.rd, .int .i64 p.bk] 43).cell 5 rfl)
                have m6 := cellAt hb5 ((Blk.new wr #[.int .i64 p.op, .int .i64 p.n, .slice p.sa p.sn p.sc, .int .i64 p.room, .bool p.over, .bool p.rd, .int .i64 p.bk] 43).cell 6 rfl)
                clear hb5
                go_wp2_with fail
                go_roundw
                case rel => exact ⟨k + 1, by omega, by go_num, (HBR.out.alloc HBR.out.size _).trans (HC.out.mono (by rw [sz_alloc]; have := HBR.out.size; omega)), by rw [HEQ.out, HST.out, HF.out, Bool.true_and]⟩
                case measure => simp [intOf]; omega
            · have kn : (p.n != 0) = true := by simpa using hn
              have kn' : (p.n == 0) = false := by simpa using hn
              have HF := Lib.hid (show kpOK p = false by unfold kpOK; rw [k1', kn']; rfl)
              clear h1 hn
              have hff : v = false := by rw [HEQ.out, HST.out, HF.out, Bool.false_and]
              subst hff
              go_wp2
              go_ret
              exact ⟨rfl, (HBQ.out.trans ((HBR.out.alloc HBR.out.size _).mono HBQ.out.size))⟩
          · have k1 : (p.op != 1) = true := by simpa using h1
            have k1' : (p.op == 1) = false := by simpa using h1
            by_cases h2 : p.op = 2
            · have k2 : (p.op != 2) = false := by simpa using h2
              have k2' : (p.op == 2) = true := by simpa using h2
              by_cases hn : p.n = 0
              · have kn : (p.n != 0) = false := by simpa using hn
                have kn' : (p.n == 0) = true := by simpa using hn
                cases hz : zeroP p
                · have HZZ := Lib.hid hz
                  have HF := Lib.hid (show kpOK p = false by unfold kpOK; rw [k1', k2', kn', HZZ.out]; rfl)
                  clear h1 h2 hn hz
                  go_wp2_with fail
                  refine (zeroN_to HZZ.out _).mono ?_
                  rintro e1 w5 ⟨rfl, hb5⟩
                  have HC := Lib.hid hb5
                  have m0 := cellAt hb5 ((Blk.new wr #[.int .i64 p.op, .int .i64 p.n, .slice p.sa p.sn p.sc, .int .i64 p.room, .bool p.over, .bool p.rd, .int .i64 p.bk] 43).cell 0 rfl)
                  have m1 := cellAt hb5 ((Blk.new wr #[.int .i64 p.op, .int .i64 p.n, .slice p.sa p.sn p.sc, .int .i64 p.room, .bool p.over, .bool p.rd, .int .i64 p.bk] 43).cell 1 rfl)
                  have m2 := cellAt hb5 ((Blk.new wr #[.int .i64 p.op, .int .i64 p.n, .slice p.sa p.sn p.sc, .int .i64 p.room, .bool p.over, .bool p.rd, .int .i64 p.bk] 43).cell 2 rfl)
                  have m3 := cellAt hb5 ((Blk.new wr #[.int .i64 p.op, .int .i64 p.n, .slice p.sa p.sn p.sc, .int .i64 p.room, .bool p.over, .bool p.rd, .int .i64 p.bk] 43).cell 3 rfl)
                  have m4 := cellAt hb5 ((Blk.new wr #[.int .i64 p.op, .int .i64 p.n, .slice p.sa p.sn p.sc, .int .i64 p.room, .bool p.over, .bool p.rd, .int .i64 p.bk] 43).cell 4 rfl)
                  have m5 := cellAt hb5 ((Blk.new wr #[.int .i64 p.op, .int .i64 p.n, .slice p.sa p.sn p.sc, .int .i64 p.room, .bool p.over, .bool p.rd, .int .i64 p.bk] 43).cell 5 rfl)
                  have m6 := cellAt hb5 ((Blk.new wr #[.int .i64 p.op, .int .i64 p.n, .slice p.sa p.sn p.sc, .int .i64 p.room, .bool p.over, .bool p.rd, .int .i64 p.bk] 43).cell 6 rfl)
                  clear hb5
                  have hff : v = false := by rw [HEQ.out, HST.out, HF.out, Bool.false_and]
                  subst hff
                  go_wp2
                  go_ret
                  exact ⟨rfl, (HBQ.out.trans (((HBR.out.alloc HBR.out.size _).trans (HC.out.mono (by rw [sz_alloc]; have := HBR.out.size; omega))).mono HBQ.out.size))⟩
                · have HZZ := Lib.hid hz
                  have HF := Lib.hid (show kpOK p = true by unfold kpOK; rw [k1', k2', kn', HZZ.out]; rfl)
                  clear h1 h2 hn hz
                  go_wp2_with fail
                  refine (zeroN_to HZZ.out _).mono ?_
                  rintro e1 w5 ⟨rfl, hb5⟩
                  have HC := Lib.hid hb5
                  have m0 := cellAt hb5 ((Blk.new wr #[.int .i64 p.op, .int .i64 p.n, .slice p.sa p.sn p.sc, .int .i64 p.room, .bool p.over, .bool p.rd, .int .i64 p.bk] 43).cell 0 rfl)
                  have m1 := cellAt hb5 ((Blk.new wr #[.int .i64 p.op, .int .i64 p.n, .slice p.sa p.sn p.sc, .int .i64 p.room, .bool p.over, .bool p.rd, .int .i64 p.bk] 43).cell 1 rfl)
                  have m2 := cellAt hb5 ((Blk.new wr #[.int .i64 p.op, .int .i64 p.n, .slice p.sa p.sn p.sc, .int .i64 p.room, .bool p.over, .bool p.rd, .int .i64 p.bk] 43).cell 2 rfl)
                  have m3 := cellAt hb5 ((Blk.new wr #[.int .i64 p.op, .int .i64 p.n, .slice p.sa p.sn p.sc, .int .i64 p.room, .bool p.over, .bool p.rd, .int .i64 p.bk] 43).cell 3 rfl)
                  have m4 := cellAt hb5 ((Blk.new wr #[.int .i64 p.op, .int .i64 p.n, .slice p.sa p.sn p.sc, .int .i64 p.room, .bool p.over, .bool p.rd, .int .i64 p.bk] 43).cell 4 rfl)
                  have m5 := cellAt hb5 ((Blk.new wr #[.int .i64 p.op, .int .i64 p.n, .slice p.sa p.sn p.sc, .int .i64 p.room, .bool p.over, .bool p.rd, .int .i64 p.bk] 43).cell 5 rfl)
                  have m6 := cellAt hb5 ((Blk.new wr #[.int .i64 p.op, .int .i64 p.n, .slice p.sa p.sn p.sc, .int .i64 p.room, .bool p.over, .bool p.rd, .int .i64 p.bk] 43).cell 6 rfl)
                  clear hb5
                  go_wp2_with fail
                  go_roundw
                  case rel => exact ⟨k + 1, by omega, by go_num, (HBR.out.alloc HBR.out.size _).trans (HC.out.mono (by rw [sz_alloc]; have := HBR.out.size; omega)), by rw [HEQ.out, HST.out, HF.out, Bool.true_and]⟩
                  case measure => simp [intOf]; omega
              · have kn : (p.n != 0) = true := by simpa using hn
                have kn' : (p.n == 0) = false := by simpa using hn
                have HF := Lib.hid (show kpOK p = false by unfold kpOK; rw [k1', k2', kn']; rfl)
                clear h1 h2 hn
                have hff : v = false := by rw [HEQ.out, HST.out, HF.out, Bool.false_and]
                subst hff
                go_wp2
                go_ret
                exact ⟨rfl, (HBQ.out.trans ((HBR.out.alloc HBR.out.size _).mono HBQ.out.size))⟩
            · have k2 : (p.op != 2) = true := by simpa using h2
              have k2' : (p.op == 2) = false := by simpa using h2
              have HF := Lib.hid (show kpOK p = false by unfold kpOK; rw [k1', k2']; rfl)
              clear h1 h2
              have hff : v = false := by rw [HEQ.out, HST.out, HF.out, Bool.false_and]
              subst hff
              go_wp2
              go_ret
              exact ⟨rfl, (HBQ.out.trans ((HBR.out.alloc HBR.out.size _).mono HBQ.out.size))⟩
        · obtain rfl : k = pn := by omega
          have hff : v = true := by rw [HEQ.out, List.drop_of_length_le (by rw [HL.out]; exact Nat.le_refl _)]; rfl
          subst hff
          have hni : ¬ ((k : Int) < k) := by omega
          clear hbr
          go_wp2
          go_ret
          exact ⟨rfl, HBQ.out.trans (HBR.out.mono HBQ.out.size)⟩
end Go.Proofs.YtigfgdefgnahpaaDoor
