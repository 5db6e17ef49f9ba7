/-
  The walks of Same at equal records, and of the laws' size. Not a statement of the seat.
-/
import Derived.Test.YtigfgdefgnahpaaDoorCopyC
import Derived.Test.YtigfgdefgnahpaaDoorAwake
import Derived.Test.YtigfgdefgnahpaaDoorWorkCopy
namespace Go.Proofs.YtigfgdefgnahpaaDoor
open Go.RowKit

/-- a copied record, as a value, reads so -/
def CopiedV (n : Nat) (e : Int) (way : Nat) (d : ByteArray) (ss : List ByteArray) (cs : List Int) (k wk left : Nat) (v : Value) (w : World) : Prop :=
  ∃ a1 n1 c1 a2 n2 c2, v = .agg #[.int .i64 n, .int .i64 e, .int .i64 way, .string d, .slice a1 n1 c1, .slice a2 n2 c2, .int .i64 k, .int .i64 wk, .int .i64 left] ∧ Rd w 1 a1 n1 c1 (ss.map Value.string) ∧ Rd w 1 a2 n2 c2 (I3 cs)
theorem CopiedV.below {n way k wk left : Nat} {e : Int} {d : ByteArray} {ss : List ByteArray} {cs : List Int} {v : Value} {w w' : World} (h : CopiedV n e way d ss cs k wk left v w) (hb : Below w.heap.size w w') : CopiedV n e way d ss cs k wk left v w' := by
  obtain ⟨a1, n1, c1, a2, n2, c2, h1, h2, h3⟩ := h
  exact ⟨a1, n1, c1, a2, n2, c2, h1, h2.below hb, h3.below hb⟩

set_option maxRecDepth 100000 in
set_option maxHeartbeats 4000000 in
theorem sameT {n way k wk left : Nat} {e : Int} {d : ByteArray} {ss : List ByteArray} {cs : List Int} {va vb : Value} {w : World} (hA : CopiedV n e way d ss cs k wk left va w) (hB : CopiedV n e way d ss cs k wk left vb w) :
    Calls Tryd.prog 13 #[va, vb] w (RV w (.bool true)) := by
  obtain ⟨a1, n1, c1, a2, n2, c2, rfl, hA1, hA2⟩ := hA
  obtain ⟨b1, m1, d1, b2, m2, d2, rfl, hB1, hB2⟩ := hB
  obtain rfl : n1 = m1 := by have h1 := hA1.len; have h2 := hB1.len; simp at h1 h2; omega
  obtain rfl : n2 = m2 := by have h1 := hA2.len; have h2 := hB2.len; simp at h1 h2; omega
  obtain ⟨wq, hwq⟩ : ∃ wq, (w.alloc (.cells #[.int .i64 n, .int .i64 e, .int .i64 way, .string d, .slice a1 n1 c1, .slice a2 n2 c2, .int .i64 k, .int .i64 wk, .int .i64 left] 37)).alloc (.cells #[.int .i64 n, .int .i64 e, .int .i64 way, .string d, .slice b1 n1 d1, .slice b2 n2 d2, .int .i64 k, .int .i64 wk, .int .i64 left] 37) = wq := ⟨_, rfl⟩
  have hbw : Below w.heap.size w wq := by rw [← hwq]; exact ((Below.refl _ w).alloc (Nat.le_refl _) _).alloc (by rw [sz_alloc]; omega) _
  have hx1 : Blk wq w.heap.size [.int .i64 n, .int .i64 e, .int .i64 way, .string d, .slice a1 n1 c1, .slice a2 n2 c2, .int .i64 k, .int .i64 wk, .int .i64 left] := by rw [← hwq]; exact (Blk.new _ _ _).alloc _
  have hx2 : Blk wq (w.heap.size + 1) [.int .i64 n, .int .i64 e, .int .i64 way, .string d, .slice b1 n1 d1, .slice b2 n2 d2, .int .i64 k, .int .i64 wk, .int .i64 left] := by
    rw [← hwq]
    have := Blk.new (w.alloc (.cells #[.int .i64 n, .int .i64 e, .int .i64 way, .string d, .slice a1 n1 c1, .slice a2 n2 c2, .int .i64 k, .int .i64 wk, .int .i64 left] 37)) #[.int .i64 n, .int .i64 e, .int .i64 way, .string d, .slice b1 n1 d1, .slice b2 n2 d2, .int .i64 k, .int .i64 wk, .int .i64 left] 37
    rw [sz_alloc] at this
    exact this
  have HA1 := Lib.hid (hA1.below hbw)
  have HA2 := Lib.hid (hA2.below hbw)
  have HB1 := Lib.hid (hB1.below hbw)
  have HB2 := Lib.hid (hB2.below hbw)
  have HBW := Lib.hid hbw
  have hl1 : ss.length = n1 := by have h1 := hA1.len; simp at h1; exact h1
  have hl2 : cs.length = n2 := by have h1 := hA2.len; simp [I3] at h1; exact h1
  have hca1 := hA1.le
  have hma1 := hA1.max
  have hca2 := hA2.le
  have hma2 := hA2.max
  have hcb1 := hB1.le
  have hmb1 := hB1.max
  have hcb2 := hB2.le
  have hmb2 := hB2.max
  unfold maxLen at hma1 hma2 hmb1 hmb2
  have HX1 := Lib.hid hx1
  have HX2 := Lib.hid hx2
  have x0 := hx1.cell 0 rfl
  have x1 := hx1.cell 1 rfl
  have x2 := hx1.cell 2 rfl
  have x3 := hx1.cell 3 rfl
  have x4 := hx1.cell 4 rfl
  have x5 := hx1.cell 5 rfl
  have x6 := hx1.cell 6 rfl
  have x7 := hx1.cell 7 rfl
  have x8 := hx1.cell 8 rfl
  have y0 := hx2.cell 0 rfl
  have y1 := hx2.cell 1 rfl
  have y2 := hx2.cell 2 rfl
  have y3 := hx2.cell 3 rfl
  have y4 := hx2.cell 4 rfl
  have y5 := hx2.cell 5 rfl
  have y6 := hx2.cell 6 rfl
  have y7 := hx2.cell 7 rfl
  have y8 := hx2.cell 8 rfl
  have hdd : (d.toList == d.toList) = true := by simp
  clear hA1 hA2 hB1 hB2 hx1 hx2 hbw
  go_enter Tryd.func13, Tryd.ntmps13
  go_wp2_with fail
  go_loopw [5] (fun ix wr => ∃ k, k ≤ n1 ∧ ix = .int .i64 ((k : Nat) : Int) ∧ ∃ mq, wr = wq.drewN mq) (fun ix _ => n1 - (intOf ix).toNat)
  case atStart => exact ⟨0, Nat.zero_le _, rfl, 0, rfl⟩
  case round =>
    obtain ⟨i, hi, rfl, mq, rfl⟩ := hrel
    by_cases hlt : i < n1
    · obtain ⟨b, off, rfl, hb, hv⟩ := HA1.out.at1 hlt
      obtain ⟨b', off', rfl, hb', hv'⟩ := HB1.out.at1 hlt
      have his : i < ss.length := by omega
      have he : (ss.map Value.string)[i]? = some (.string ss[i]) := by simp [his]
      rw [he] at hv hv'
      generalize ss[i] = st at hv hv'
      have hss : (st.toList == st.toList) = true := by simp
      have hii : (i : Int) < n1 := by omega
      clear he
      go_wp2_with fail
      go_quiet (fail)
      rename Nat => nq1
      go_wp2_with fail
      go_roundw
      case rel => exact ⟨i + 1, by omega, by go_num, mq + nq1, by simp⟩
      case measure => simp [intOf]; omega
    · obtain rfl : i = n1 := by omega
      go_wp2_with fail
      go_loopw [6] (fun ix wr => ∃ k, k ≤ n2 ∧ ix = .int .i64 ((k : Nat) : Int) ∧ ∃ mq, wr = wq.drewN mq) (fun ix _ => n2 - (intOf ix).toNat)
      case atStart => exact ⟨0, Nat.zero_le _, rfl, _, rfl⟩
      case round =>
        obtain ⟨j, hj, rfl, mq2, rfl⟩ := hrel
        by_cases hlt2 : j < n2
        · obtain ⟨b, off, rfl, hb, hv⟩ := HA2.out.at1 hlt2
          obtain ⟨b', off', rfl, hb', hv'⟩ := HB2.out.at1 hlt2
          have his : j < cs.length := by omega
          have he : (I3 cs)[j]? = some (.int .i64 cs[j]) := by simp [I3, his]
          rw [he] at hv hv'
          generalize cs[j] = st at hv hv'
          have hii : (j : Int) < n2 := by omega
          clear he
          go_wp2_with fail
          go_quiet (fail)
          rename Nat => nq1
          go_wp2_with fail
          go_roundw
          case rel => exact ⟨j + 1, by omega, by go_num, mq2 + nq1, by simp⟩
          case measure => simp [intOf]; omega
        · obtain rfl : j = n2 := by omega
          go_wp2
          go_ret
          exact ⟨rfl, HBW.out.trans (below_drewN _ _ _)⟩

/-- a size is 1 to 65535 -/
def sizeM (n : Int) : Nat := ((IntKind.u64.wrap n).tmod 65535).toNat + 1
theorem sizeM_le (n : Int) : 1 ≤ sizeM n ∧ sizeM n ≤ 65535 := by
  unfold sizeM
  have h : 0 ≤ IntKind.u64.wrap n := by unfold IntKind.wrap; simp [IntKind.signed, IntKind.bits]; omega
  have h1 := Int.tmod_lt_of_pos (IntKind.u64.wrap n) (show (0 : Int) < 65535 by decide)
  have h2 := Int.tmod_nonneg 65535 h
  omega
theorem sizeT (n : Int) (w : World) : Calls Tryd.prog 15 #[.int .i64 n] w (fun e w' => e = .returned (.int .i64 (sizeM n : Nat)) ∧ w' = w) := by
  obtain ⟨d, hd⟩ : ∃ d : Int, (IntKind.u64.wrap n).tmod 65535 = d := ⟨_, rfl⟩
  have h : 0 ≤ IntKind.u64.wrap n := by unfold IntKind.wrap; simp [IntKind.signed, IntKind.bits]; omega
  have h1 := Int.tmod_lt_of_pos (IntKind.u64.wrap n) (show (0 : Int) < 65535 by decide)
  have h2 := Int.tmod_nonneg 65535 h
  rw [hd] at h1 h2
  have hs : ((sizeM n : Nat) : Int) = d + 1 := by unfold sizeM; rw [hd]; omega
  rw [hs]
  clear h hs
  go_enter Tryd.func15, Tryd.ntmps15
  go_wp2
  go_ret
  exact ⟨rfl, rfl⟩
end Go.Proofs.YtigfgdefgnahpaaDoor

/-
  What fit arguments give; the two copyings told as values. Not a statement of the seat.
-/
namespace Go.Proofs.YtigfgdefgnahpaaDoor
open Go.RowKit

theorem sizesF_of : ∀ (zs : List Int) (sb : Bool) {ok s : Bool}, sizesF sb zs = (ok, s) → ok = true → (∀ z ∈ zs, 0 ≤ z ∧ z ≤ 65535) ∧ (s = true → sb = true ∨ ∃ p, p < zs.length ∧ 0 < (zs[p]?).getD 0)
  | [], sb, ok, s, h, _ => by
    simp only [sizesF, Prod.mk.injEq] at h
    exact ⟨(fun z hz => by cases hz), fun hs => .inl (by rw [h.2]; exact hs)⟩
  | z :: r, sb, ok, s, h, hok => by
    rw [sizesF] at h
    by_cases hz : (decide (z < 0) || decide (65535 < z)) = true
    · rw [if_pos hz] at h
      simp only [Prod.mk.injEq] at h
      rw [← h.1] at hok
      cases hok
    · rw [if_neg hz] at h
      have hz2 : 0 ≤ z ∧ z ≤ 65535 := by
        simp at hz
        omega
      obtain ⟨h1, h2⟩ := sizesF_of r _ h hok
      refine ⟨fun y hy => ?_, fun hs => ?_⟩
      · rcases List.mem_cons.1 hy with rfl | hy
        · exact hz2
        · exact h1 y hy
      · rcases h2 hs with h3 | ⟨p, hp, hp2⟩
        · rw [Bool.or_eq_true] at h3
          rcases h3 with h3 | h3
          · exact .inl h3
          · exact .inr ⟨0, by simp, by simpa using h3⟩
        · exact .inr ⟨p + 1, by simpa using hp, by simpa using hp2⟩
theorem sizes_of {zs : List Int} (h : sizesB zs = true) : (∀ z ∈ zs, 0 ≤ z ∧ z ≤ 65535) ∧ zs.length ≤ 64 ∧ (zs.length = 0 ∨ ∃ p, p < zs.length ∧ 0 < (zs[p]?).getD 0) := by
  unfold sizesB at h
  cases hf : sizesF (decide (zs.length = 0)) zs with
  | mk ok s =>
    rw [hf] at h
    simp only [Bool.and_eq_true, decide_eq_true_eq] at h
    obtain ⟨⟨h1, h2⟩, h3⟩ := h
    obtain ⟨k1, k2⟩ := sizesF_of zs _ hf h1
    refine ⟨k1, h3, ?_⟩
    rcases k2 h2 with h4 | h4
    · exact .inl (by simpa using h4)
    · exact .inr h4
theorem inner_of2 {zs : List Int} {room bk : Int} {rd over : Bool} (h : innerB zs room rd bk = true) : (freshT zs room over).ok ∧ (rd = true → 1 ≤ bk ∧ bk ≤ 65535) := by
  unfold innerB at h
  simp only [Bool.and_eq_true, decide_eq_true_eq] at h
  obtain ⟨h1, ⟨h2, h3⟩, h4⟩ := h
  obtain ⟨k1, k2, _⟩ := sizes_of h2
  refine ⟨⟨k1, k2, h3, h4, fun h => ?_⟩, fun h => ?_⟩
  · exact h
  · rw [h] at h1
    simpa [bulkB] using h1
/-- what the fit functions ask, and what the memory tells of the pipes' numbers -/
structure FitA (dn : Nat) (zs : List Int) (ps : List Pp) : Prop where
  fit : srcFit dn zs ps = true
  num : ∀ x ∈ ps, -9223372036854775808 ≤ x.n ∧ x.n ≤ 9223372036854775807
  len : ∀ x ∈ ps, x.zs.length = x.sn
theorem pipe_of {x : Pp} (h : pipeOK x = true) (hl : x.zs.length = x.sn) : x.fresh.tank.ok ∧ x.rd = false := by
  unfold pipeOK at h
  simp only [Bool.and_eq_true, Bool.or_eq_true, bne_iff_ne, ne_eq] at h
  obtain ⟨⟨_, h4⟩, h5⟩ := h
  rcases h4 with h4 | h4
  · have h4' : x.op = 4 := by simpa using h4
    rcases h5 with h5 | h5
    · exact absurd h4' h5
    · exact ⟨(inner_of2 h5.1).1, by simpa using h5.2⟩
  · unfold zeroP zeroB at h4
    simp only [Bool.and_eq_true, beq_iff_eq] at h4
    obtain ⟨⟨⟨⟨h6, h7⟩, _⟩, h8⟩, _⟩ := h4
    have hz : x.zs = [] := List.eq_nil_of_length_eq_zero (by omega)
    refine ⟨⟨fun z hz' => ?_, ?_, ?_, ?_, fun _ => ?_⟩, by simpa using h8⟩
    · have : z ∈ x.zs := hz'
      rw [hz] at this; cases this
    · show x.zs.length ≤ 64
      rw [hz]; simp
    · show -1 ≤ x.room
      omega
    · show x.room ≤ 65535
      omega
    · show (0 : Int) ≤ x.room
      omega
theorem fit_src {d : Bytes} {zs : List Int} {ps : List Pp} (early broken : Bool) (h : FitA d.length zs ps) : ∃ p, (srcOf d zs early broken).ok ∧ (srcOf d zs early broken).some p ∧ (srcOf d zs early broken).rem p ≤ 4400000 ∧ Oks (upto ps ps.length) (srcOf d zs early broken) ∧ (∀ x ∈ ps, x.rd = false) ∧ ps.length ≤ 8 := by
  obtain ⟨hf, hn, hl⟩ := h
  unfold srcFit at hf
  simp only [Bool.and_eq_true] at hf
  obtain ⟨⟨⟨h1, h2⟩, h3⟩, h4⟩ := hf
  have h1' : d.length ≤ 65535 := by simp at h1; omega
  have h3' : ps.length ≤ 8 := by simp at h3; omega
  obtain ⟨k1, k2, k3⟩ := sizes_of h2
  have hall : ∀ x ∈ ps, pipeOK x = true := by simpa using h4
  have hex : ∃ p, (srcOf d zs early broken).some p ∧ (srcOf d zs early broken).rem p ≤ 4400000 := by
    have hr : ∀ p, (srcOf d zs early broken).rem p ≤ d.length * 65 + zs.length := by
      intro p
      unfold Sc.rem Sc.left srcOf
      dsimp only
      split
      · omega
      · have := Int.emod_lt_of_pos ((p : Int) - (0 : Nat)) (show (0 : Int) < zs.length by omega)
        have := Int.emod_nonneg ((p : Int) - (0 : Nat)) (show (zs.length : Int) ≠ 0 by omega)
        omega
    rcases k3 with h5 | ⟨p, hp, hp2⟩
    · exact ⟨0, .inl h5, by have := hr 0; omega⟩
    · exact ⟨p, .inr ⟨hp, hp2⟩, by have := hr p; omega⟩
  obtain ⟨p, hp1, hp2⟩ := hex
  refine ⟨p, ⟨k1, k2, Nat.zero_le _, h1'⟩, hp1, hp2, fun y hy => ?_, fun x hx => (pipe_of (hall x hx) (hl x hx)).2, h3'⟩
  unfold upto at hy
  simp only [List.mem_reverse, List.mem_map] at hy
  obtain ⟨x, hx, rfl⟩ := hy
  have hx' : x ∈ ps := List.mem_of_mem_take hx
  refine ⟨(pipe_of (hall x hx') (hl x hx')).1, Nat.zero_le _, Nat.zero_le _, Int.le_refl _, ?_, (hn x hx').1, (hn x hx').2⟩
  show (0 : Int) ≤ ((0 : Nat) : Int)
  simp
theorem fit_ok {d : Bytes} {zs tzs : List Int} {ps qs : List Pp} {room bk : Int} {over rd : Bool} (early broken : Bool) (h : FitA d.length zs ps) (hs : sinkFit tzs room rd bk qs = true) :
    ∃ p, CpOk p ⟨upto ps ps.length, srcOf d zs early broken, uptoK qs qs.length, freshT tzs room over, 0⟩ ∧ (srcOf d zs early broken).rem p < 4400001 ∧ (∀ x ∈ ps, x.rd = false) ∧ ps.length ≤ 8 ∧ qs.length ≤ 8 ∧ (rd = true → 1 ≤ bk ∧ bk ≤ 65535) := by
  obtain ⟨p, a1, a2, a3, a4, a5, a6⟩ := fit_src early broken h
  unfold sinkFit at hs
  simp only [Bool.and_eq_true] at hs
  obtain ⟨⟨h1, h2⟩, _⟩ := hs
  obtain ⟨b1, b2⟩ := inner_of2 (over := over) h1
  refine ⟨p, ⟨a1, a2, a4, b1, Nat.zero_le _, Nat.zero_le _, Nat.zero_le _, fun x hx => ?_, ?_⟩, by omega, a5, a6, by simp at h2; omega, b2⟩
  · unfold uptoK at hx
    simp only [List.mem_reverse, List.mem_map] at hx
    obtain ⟨q, _, rfl⟩ := hx
    exact ⟨Int.le_refl _, by simp [Pp.kw]⟩
  · show 0 + (srcOf d zs early broken).rem p ≤ 5000000
    omega
end Go.Proofs.YtigfgdefgnahpaaDoor

/-
  The laws' walk of fit; the two copyings of fit arguments, told as values. Not a statement of the seat.
-/
namespace Go.Proofs.YtigfgdefgnahpaaDoor
open Go.RowKit

def bytesS (t : Tank) : ByteArray := ⟨t.has.toArray⟩
/-- a copied record handed back, in new memory -/
def CopiedP (n : Nat) (e : Int) (way : Nat) (d : ByteArray) (ss : List ByteArray) (cs : List Int) (k wk left : Nat) (w : World) (e' : Ending) (w' : World) : Prop :=
  ∃ v, e' = .returned v ∧ Below w.heap.size w w' ∧ CopiedV n e way d ss cs k wk left v w'
theorem toldV {n way : Nat} {e : Int} {t : Tank} {s : Sc} {ts : List Tank} {cs : List Int} {w w' : World} {e' : Ending} (h : ToldP n e way t s ts cs w e' w') : CopiedP n e way (bytesS t) (ts.map bytesS) cs s.k t.k s.left w e' w' := by
  obtain ⟨a1, n1, c1, a2, n2, c2, rfl, hb, h1, h2, _, _⟩ := h
  refine ⟨_, rfl, hb, a1, n1, c1, a2, n2, c2, rfl, ?_, h2⟩
  rw [List.map_map]
  exact h1

/-- the arguments as they lie in memory -/
structure ArgsAt (w : World) (A : Sa) (zs tzs : List Int) (ps qs : List Pp) : Prop where
  z : RdK w free none 1 A.sa A.sn A.sc (I3 zs)
  p : Pipes w free A.pa A.pn A.pc ps
  t : RdK w free none 1 A.ta A.tn A.tc (I3 tzs)
  q : Pipes w free A.qa A.qn A.qc qs
theorem ArgsAt.below {w w' : World} {A : Sa} {zs tzs : List Int} {ps qs : List Pp} (h : ArgsAt w A zs tzs ps qs) (hb : Below w.heap.size w w') : ArgsAt w' A zs tzs ps qs := by
  have g : Step (fun _ => False) w free w' free := (Step.refl _ (fun _ _ => rfl)).calm hb
  exact ⟨h.z.step g (fun _ h => by cases h), h.p.step g, h.t.step g (fun _ h => by cases h), h.q.step g⟩
/-- the copying of these arguments -/
def cpOf (A : Sa) (zs tzs : List Int) (ps qs : List Pp) : Cp := ⟨upto ps ps.length, srcOf A.dat.data.toList zs A.early A.broken, uptoK qs qs.length, freshT tzs A.room A.over, 0⟩
def resOf (A : Sa) (zs tzs : List Int) (ps qs : List Pp) (m : Nat) : Cp × Int × Int := copyM ⟨A.wr, fun _ => 0⟩ ⟨A.rd, fun _ => 0⟩ A.bk.toNat m 4400001 (cpOf A zs tzs ps qs)
theorem copyM_way (sh : Sh) (sk : Sk) (bulk m F : Nat) (c : Cp) : (copyM sh sk bulk m F c).2.2 = (((copyM sh sk bulk m F c).2.2.toNat : Nat) : Int) := by
  unfold copyM
  split
  · rfl
  · split
    · rfl
    · rfl
section
variable {A : Sa} {zs tzs : List Int} {ps qs : List Pp} {eb m : Nat} {w : World}
theorem bk_of (h : FitA A.dat.size zs ps) (hs : sinkFit tzs A.room A.rd A.bk qs = true) : A.bk = ((A.bk.toNat : Nat) : Int) := by
  unfold sinkFit innerB at hs
  simp only [Bool.and_eq_true] at hs
  have h1 := hs.1.1.1
  unfold bulkB at h1
  have _ := h
  split at h1
  · simp only [Bool.and_eq_true, decide_eq_true_eq] at h1; omega
  · have : A.bk = 0 := by simpa using h1
    rw [this]; rfl
theorem copyNV (hA : ArgsAt w A zs tzs ps qs) (hL : Laid eb w) (h : FitA A.dat.size zs ps) (hs : sinkFit tzs A.room A.rd A.bk qs = true) (hm1 : 1 ≤ m) (hm2 : m ≤ 65535) {R : Cp × Int × Int} (hR : resOf A zs tzs ps qs m = R) :
    Calls Tryd.prog 14 #[.agg A.src.toArray, .agg A.dst.toArray, .int .i64 m] w (CopiedP R.1.tot R.2.1 R.2.2.toNat (bytesS R.1.t) ((sideTs R.1.l).map bytesS) (cntsOf R.1.l ++ cntsK R.1.k) R.1.s.k R.1.t.k R.1.s.left w) := by
  subst hR
  have hd : A.dat.data.toList.length = A.dat.size := Array.length_toList
  have h' : FitA A.dat.data.toList.length zs ps := by rw [hd]; exact h
  obtain ⟨p, k1, k2, k3, k4, k5, k6⟩ := fit_ok (over := A.over) A.early A.broken h' hs
  have hpl := hA.p.len
  have hql := hA.q.len
  have hbk := bk_of h hs
  have hw := copyM_way ⟨A.wr, fun _ => 0⟩ ⟨A.rd, fun _ => 0⟩ A.bk.toNat m 4400001 (cpOf A zs tzs ps qs)
  have := copyN (eb := eb) (p := p) (F := 4400001) (m := m) (bulk := A.bk.toNat) (way := (resOf A zs tzs ps qs m).2.2.toNat) (e := (resOf A zs tzs ps qs m).2.1) (R := (resOf A zs tzs ps qs m).1) (wrt := A.wr) (trd := A.rd) hA.z hA.p hA.t hA.q k3 (by omega) (by omega)
    (by rw [← hpl, ← hql]; exact k1) (fun hh => by have := k6 hh; omega) hm1 (by omega) hL.eof hL.et k2 (by rw [← hpl, ← hql]; unfold resOf at *; rw [← hw]; rfl)
  rw [← hbk] at this
  exact this.mono (fun e' w' ht => toldV ht)
theorem copyRV (hA : ArgsAt w A zs tzs ps qs) (h : FitA A.dat.size zs ps) (hs : sinkFit tzs A.room A.rd A.bk qs = true) (hm1 : 1 ≤ m) (hm2 : m ≤ 65535) {R : Cp × Int × Int} (hR : resOf A zs tzs ps qs m = R) :
    Calls Tryd.prog 16 #[.agg A.src.toArray, .agg A.dst.toArray, .int .i64 m] w (CopiedP R.1.tot R.2.1 R.2.2.toNat (bytesS R.1.t) ((sideTs R.1.l).map bytesS) (cntsOf R.1.l ++ cntsK R.1.k) R.1.s.k R.1.t.k R.1.s.left w) := by
  subst hR
  have hd : A.dat.data.toList.length = A.dat.size := Array.length_toList
  have h' : FitA A.dat.data.toList.length zs ps := by rw [hd]; exact h
  obtain ⟨p, k1, k2, k3, k4, k5, k6⟩ := fit_ok (over := A.over) A.early A.broken h' hs
  have hpl := hA.p.len
  have hql := hA.q.len
  have hbk := bk_of h hs
  have hw := copyM_way ⟨A.wr, fun _ => 0⟩ ⟨A.rd, fun _ => 0⟩ A.bk.toNat m 4400001 (cpOf A zs tzs ps qs)
  have := copyR (A := A) (p := p) (F := 4400001) (m := m) (bulk := A.bk.toNat) (way := (resOf A zs tzs ps qs m).2.2.toNat) (e := (resOf A zs tzs ps qs m).2.1) (R := (resOf A zs tzs ps qs m).1) hA.z hA.p hA.t hA.q (by omega) (by omega)
    (by rw [← hpl, ← hql]; exact k1) hbk (fun hh => by have := k6 hh; omega) hm1 (by omega) k2 (by rw [← hpl, ← hql]; unfold resOf at *; rw [← hw]; rfl)
  exact this.mono (fun e' w' ht => toldV ht)
end

/-- are both fit? -/
def fitB (A : Sa) (zs tzs : List Int) (ps qs : List Pp) : Bool := srcFit A.dat.size zs ps && sinkFit tzs A.room A.rd A.bk qs

set_option maxRecDepth 100000 in
theorem fitT {A : Sa} {zs tzs : List Int} {ps qs : List Pp} {w : World} {v : Bool} (hA : ArgsAt w A zs tzs ps qs) (hv : fitB A zs tzs ps qs = v) :
    Calls Tryd.prog 11 #[.agg #[.string A.dat, .slice A.sa A.sn A.sc, .bool A.early, .bool A.broken, .bool A.wr, .slice A.pa A.pn A.pc], .agg #[.slice A.ta A.tn A.tc, .int .i64 A.room, .bool A.over, .bool A.rd, .int .i64 A.bk, .slice A.qa A.qn A.qc]] w (RV w (.bool v)) := by
  obtain ⟨wq, hwq⟩ : ∃ wq, (w.alloc (.cells #[.string A.dat, .slice A.sa A.sn A.sc, .bool A.early, .bool A.broken, .bool A.wr, .slice A.pa A.pn A.pc] 25)).alloc (.cells #[.slice A.ta A.tn A.tc, .int .i64 A.room, .bool A.over, .bool A.rd, .int .i64 A.bk, .slice A.qa A.qn A.qc] 29) = wq := ⟨_, rfl⟩
  have hbw : Below w.heap.size w wq := by rw [← hwq]; exact ((Below.refl _ w).alloc (Nat.le_refl _) _).alloc (by rw [sz_alloc]; omega) _
  have hb1 : Blk wq w.heap.size A.src := by rw [← hwq]; exact (Blk.new w #[.string A.dat, .slice A.sa A.sn A.sc, .bool A.early, .bool A.broken, .bool A.wr, .slice A.pa A.pn A.pc] 25).alloc _
  have hb2 : Blk wq (w.heap.size + 1) A.dst := by
    rw [← hwq]
    have := Blk.new (w.alloc (.cells #[.string A.dat, .slice A.sa A.sn A.sc, .bool A.early, .bool A.broken, .bool A.wr, .slice A.pa A.pn A.pc] 25)) #[.slice A.ta A.tn A.tc, .int .i64 A.room, .bool A.over, .bool A.rd, .int .i64 A.bk, .slice A.qa A.qn A.qc] 29
    rw [sz_alloc] at this
    exact this
  have HA := Lib.hid (hA.below hbw)
  have HBW := Lib.hid hbw
  have c0 := hb1.cell 0 rfl
  have c1 := hb1.cell 1 rfl
  have c2 := hb1.cell 2 rfl
  have c3 := hb1.cell 3 rfl
  have c4 := hb1.cell 4 rfl
  have c5 := hb1.cell 5 rfl
  have d0 := hb2.cell 0 rfl
  have d1 := hb2.cell 1 rfl
  have d2 := hb2.cell 2 rfl
  have d3 := hb2.cell 3 rfl
  have d4 := hb2.cell 4 rfl
  have d5 := hb2.cell 5 rfl
  unfold fitB at hv
  clear hA hbw hb1 hb2
  cases hs : srcFit A.dat.size zs ps
  · have hv0 : v = false := by rw [← hv, hs]; rfl
    subst hv0
    have HS := Lib.hid hs
    clear hv hs
    go_enter Tryd.func11, Tryd.ntmps11
    go_wp2_with fail
    refine (srcR (fun _ _ => rfl) HA.out.z HA.out.p HS.out).mono ?_
    rintro e w1 ⟨rfl, hb⟩
    have HB := Lib.hid (HBW.out.trans (hb.mono HBW.out.size))
    clear hb
    go_wp2
    go_ret
    exact ⟨rfl, HB.out⟩
  · have hv0 : sinkFit tzs A.room A.rd A.bk qs = v := by rw [← hv, hs]; rfl
    have HS := Lib.hid hs
    have HV := Lib.hid hv0
    clear hv hs hv0
    go_enter Tryd.func11, Tryd.ntmps11
    go_wp2_with fail
    refine (srcR (fun _ _ => rfl) HA.out.z HA.out.p HS.out).mono ?_
    rintro e w1 ⟨rfl, hb⟩
    have HB := Lib.hid (HBW.out.trans (hb.mono HBW.out.size))
    have HA1 := Lib.hid (HA.out.below hb)
    have d0 := cellAt hb d0
    have d1 := cellAt hb d1
    have d2 := cellAt hb d2
    have d3 := cellAt hb d3
    have d4 := cellAt hb d4
    have d5 := cellAt hb d5
    clear hb
    go_wp2_with fail
    refine (snkR (fun _ _ => rfl) HA1.out.t HA1.out.q HV.out).mono ?_
    rintro e w2 ⟨rfl, hb⟩
    have HB2 := Lib.hid (HB.out.trans (hb.mono HB.out.size))
    clear hb
    go_wp2
    go_ret
    exact ⟨rfl, HB2.out⟩
end Go.Proofs.YtigfgdefgnahpaaDoor
