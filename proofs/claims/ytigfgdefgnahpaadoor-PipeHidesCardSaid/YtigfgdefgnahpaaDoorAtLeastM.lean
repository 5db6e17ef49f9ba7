/-
  Reading at least so many bytes, as a plain function; a row and its rest. Not a statement of the seat.
-/
import Derived.Test.YtigfgdefgnahpaaDoorCopyC
import Derived.Deep.CutRange
import Derived.Deep.RegionHeld3
namespace Go.Proofs.YtigfgdefgnahpaaDoor
open Go.RowKit

def alRound (size : Nat) (c : Cp) : Cp × Option Int :=
  ((c.read (size - c.tot)).plus (readM c.l c.s (size - c.tot)).n, if (readM c.l c.s (size - c.tot)).e = 0 then none else some (readM c.l c.s (size - c.tot)).e)
def alM (least : Int) (size : Nat) : Nat → Cp → Cp × Int
  | 0, c => (c, 0)
  | f + 1, c => if (c.tot : Int) < least then (match (alRound size c).2 with
    | some e => ((alRound size c).1, e)
    | none => alM least size f (alRound size c).1) else (c, 0)
/-- what is told: the bytes, the error -/
def alOut (least : Int) (data : Bytes) (R : Cp × Int) : Bytes × Int :=
  if least ≤ (R.1.tot : Int) then (data.take R.1.tot, 0) else if R.2 = -1 then (if 0 < R.1.tot then (data.take R.1.tot, 364) else ([], 365)) else (data.take R.1.tot, R.2)
theorem alM_stay {least : Int} {size f : Nat} {c : Cp} (h : ¬ (c.tot : Int) < least) : alM least size (f + 1) c = (c, 0) := by rw [alM, if_neg h]
theorem alM_stop {least : Int} {size f : Nat} {c : Cp} {e : Int} (h : (c.tot : Int) < least) (he : (alRound size c).2 = some e) : alM least size (f + 1) c = ((alRound size c).1, e) := by rw [alM, if_pos h, he]
theorem alM_more {least : Int} {size f : Nat} {c : Cp} (h : (c.tot : Int) < least) (he : (alRound size c).2 = none) : alM least size (f + 1) c = alM least size f (alRound size c).1 := by rw [alM, if_pos h, he]

/-- a round that goes on: all that came is there -/
theorem alRound_ok {p size : Nat} {c : Cp} (h : CpOk p c) (ht : c.tot = c.s.pos) (hlt : c.tot < size) (he : (readM c.l c.s (size - c.tot)).e = 0) :
    CpOk p (alRound size c).1 ∧ (alRound size c).1.s.rem p < c.s.rem p ∧ (alRound size c).1.tot = (alRound size c).1.s.pos ∧ (alRound size c).1.tot ≤ size := by
  have g := readM_good c.l c.s (size - c.tot) h.s h.l
  obtain ⟨a, ar⟩ := read_ok h (m := size - c.tot) (by omega) he
  have hf := g.full he
  have h1 := g.pos
  have h2 := g.le
  refine ⟨⟨a.s, a.some, a.l, a.t, a.has, ?_, a.tk, a.k, a.kk⟩, ar, ?_, ?_⟩
  · show c.tot + (readM c.l c.s (size - c.tot)).n ≤ (readM c.l c.s (size - c.tot)).s.pos
    omega
  · show c.tot + (readM c.l c.s (size - c.tot)).n = (readM c.l c.s (size - c.tot)).s.pos
    omega
  · show c.tot + (readM c.l c.s (size - c.tot)).n ≤ size
    omega

/-- a row, of its first cells and what lies behind them -/
theorem RowK.join {w w' : World} {r r' : Own} {q k n cap : Nat} {a : Option Addr} {xs ys : List Value} (h : RowK w r q 1 a n cap xs) (hk : k < n) (hsub : RowK w' r' q 1 (slAt a k cap 1) (n - k) (cap - k) ys) (hA : Ahead w w' (slAt a k cap 1)) : RowK w' r' q 1 a n cap (xs.take k ++ ys) := by
  obtain ⟨⟨h1, h2, h3, h4⟩, h5⟩ := h
  rcases h4 with ⟨h4, h4'⟩ | ⟨b, off, rfl, hB, hlt, hc, hs⟩
  · omega
  · have hsl : slAt (some (⟨b, off, none⟩ : Addr)) k cap 1 = some ⟨b, off + k, none⟩ := by
      unfold slAt
      rw [if_neg (by omega), Option.map_some, Addr.add_lit, Nat.mul_one]
    rw [hsl] at hsub hA
    obtain ⟨⟨g1, g2, g3, g4⟩, g5⟩ := hsub
    rcases g4 with ⟨g4, _⟩ | ⟨b', off', e, _, glt, gc, gs⟩
    · omega
    · cases e
      have hah := hA b (off + k) rfl
      have hxl : (xs.take k).length = k := by rw [List.length_take]; omega
      refine ⟨⟨by rw [List.length_append, hxl, g1]; omega, h2, h3, .inr ⟨b, off, rfl, Nat.zero_le _, glt, fun j hj => ?_, fun j hj => ?_⟩⟩, fun x hx => by cases hx; exact g5 b rfl⟩
      · by_cases hjk : j < k
        · rw [(hah (off + j) (by omega)).1, hc j (by omega), List.getElem?_append_left (by omega), List.getElem?_take, if_pos hjk]
        · have h9 := gc (j - k) (by rw [List.length_append, hxl] at hj; omega)
          rw [show off + k + (j - k) = off + j by omega] at h9
          rw [h9, List.getElem?_append_right (by omega), hxl]
      · by_cases hjk : j < k
        · rw [(hah (off + j) (by omega)).1, (hah (off + j) (by omega)).2]
          exact hs j hj
        · have h9 := gs (j - k) (by omega)
          rw [show off + k + (j - k) = off + j by omega] at h9
          exact h9
end Go.Proofs.YtigfgdefgnahpaaDoor

/-
  The walk of ReadAtLeast (the code's). Not a statement of the seat.
-/
namespace Go.Proofs.YtigfgdefgnahpaaDoor
open Go.RowKit

theorem eqNn (eb : Nat) {e : Int} (h : e = 0 ∨ e = -1 ∨ e = 362 ∨ e = 363) (w : World) : (binOp .eql 68 (errV eb e) .nilIface).run Tryd.prog w = .ok (.bool (e == 0)) w := by
  rcases h with rfl | rfl | rfl | rfl <;> kernel_rfl
theorem gdNn (eb : Nat) {e : Int} (h : e = 0 ∨ e = -1 ∨ e = 362 ∨ e = 363) (a : Operand) (w : World) : (eqGuard .eql 68 a (.const .nilIface) (errV eb e) .nilIface).run Tryd.prog w = .ok () w := by
  rcases h with rfl | rfl | rfl | rfl <;> cases a <;> rfl
theorem nRd54 (a : Addr) (w : World) : (nilAhead 305 54 (.pointer (some a)) "conduit/pipe.read").run Tryd.prog w = .ok (some false) w := by kernel_rfl
theorem nRd104 (a : Addr) (w : World) : (nilAhead 305 104 (.agg #[.pointer (some a)]) "conduit/pipe.read").run Tryd.prog w = .ok (some false) w := by kernel_rfl
theorem nRd135 (b c f : Value) (w : World) : (nilAhead 305 135 (.agg #[b, c, f]) "conduit/pipe.read").run Tryd.prog w = .ok (some false) w := by kernel_rfl
theorem nRd130 (b c : Value) (w : World) : (nilAhead 305 130 (.agg #[b, c]) "conduit/pipe.read").run Tryd.prog w = .ok (some false) w := by kernel_rfl
theorem nRd58 (a : Addr) (w : World) : (nilAhead 305 58 (.pointer (some a)) "conduit/pipe.read").run Tryd.prog w = .ok (some false) w := by kernel_rfl
theorem nRd137 (b c : Value) (w : World) : (nilAhead 305 137 (.agg #[b, c]) "conduit/pipe.read").run Tryd.prog w = .ok (some false) w := by kernel_rfl
theorem nRd139 (b : Value) (w : World) : (nilAhead 305 139 (.agg #[b]) "conduit/pipe.read").run Tryd.prog w = .ok (some false) w := by kernel_rfl
theorem chainAlive {w : World} {r : Own} {wr : Sh} : ∀ {l : List Wr} {v : Value} {s : Sc}, Chain w r wr v l s → Alive "conduit/pipe.read" v
  | [], v, s, h => by
    obtain ⟨fs, hv, h2⟩ := h
    intro T x e
    cases hw : wr.wr
    · rw [hw, if_neg (by simp)] at hv; rw [hv] at e; cases e; exact fun w => nRd54 _ w
    · rw [hw, if_pos rfl] at hv; rw [hv] at e; cases e; exact fun w => nRd104 _ w
  | x :: l, v, s, h => by
    obtain ⟨below, h1, h2⟩ := h
    intro T y e
    unfold WrapAt at h2
    split at h2
    · obtain ⟨cb, hv, _⟩ := h2
      split at hv
      · rw [hv] at e; cases e; exact fun w => nRd135 _ _ _ w
      · rw [hv] at e; cases e; exact fun w => nRd130 _ _ w
    · split at h2
      · obtain ⟨lb, hv, _⟩ := h2
        rw [hv] at e; cases e; exact fun w => nRd58 _ w
      · split at h2
        · obtain ⟨tb, bk, hv, _⟩ := h2
          rw [hv] at e; cases e; exact fun w => nRd137 _ _ w
        · rw [h2] at e; cases e; exact fun w => nRd139 _ w

def KA (k : Nat) : Prop := k ≤ 31
def AlRel (least : Int) (size : Nat) (Res : Cp × Int) (p : Nat) (sh : Sh) (rv : Value) (eb : Nat) (dat : Bytes) (ba : Option Addr) (w0 : World) (r0 : Own) (f : Nat) (t u : Value) (wx : World) : Prop :=
  ∃ c rx xs e9, t = .int .i64 (c.tot : Int) ∧ u = errV eb e9 ∧ Step (fun k => k ≤ 34) w0 r0 wx rx ∧ RowK wx rx 31 1 ba size size xs ∧ xs.take c.tot = B8 (dat.take c.tot) ∧ c.tot ≤ size ∧ EOFat wx rx eb ∧ ETat wx rx ∧ c.tot ≤ 65535 ∧
    ((e9 = 0 ∧ CpOk p c ∧ c.tot = c.s.pos ∧ c.s.data = dat ∧ Chain wx rx sh rv c.l c.s ∧ c.l.length < 30 ∧ c.s.rem p < f ∧ alM least size f c = Res) ∨ ((e9 = -1 ∨ e9 = 362 ∨ e9 = 363) ∧ Res = (c, e9)))

set_option maxRecDepth 100000 in
set_option maxHeartbeats 8000000 in
theorem atLeastN {eb p F size : Nat} {least e : Int} {out : ByteArray} {dat : ByteArray} {sa pa : Option Addr} {sn sc pn pc : Nat} {zs : List Int} {early broken wrt : Bool} {ps : List Pp} {Res : Cp × Int} {w : World}
    (hZ : RdK w free none 1 sa sn sc (I3 zs)) (hP : Pipes w free pa pn pc ps) (hrd : ∀ x ∈ ps, x.rd = false) (hpn : pn ≤ 10) (hok : CpOk p ⟨upto ps pn, srcOf dat.data.toList zs early broken, [], freshT [] 0 false, 0⟩) (hsz1 : 1 ≤ size) (hsz2 : size ≤ 1000000) (hle : least ≤ (size : Int))
    (hE : EOFat w free eb) (hET : ETat w free) (hF : (srcOf dat.data.toList zs early broken).rem p < F) (hres : alM least size F ⟨upto ps pn, srcOf dat.data.toList zs early broken, [], freshT [] 0 false, 0⟩ = Res) (hout : alOut least dat.data.toList Res = (out.data.toList, e)) :
    Calls Tryd.prog 22 #[.agg #[.string dat, .slice sa sn sc, .bool early, .bool broken, .bool wrt, .slice pa pn pc], .int .i64 least, .int .i64 size] w (RV w (.tuple #[.string out, .int .i64 e])) := by
  have hd : dat.size ≤ 65535 := by have := hok.s.2.2.2; have h2 : dat.data.toList.length = dat.size := Array.length_toList; dsimp only [srcOf] at this; omega
  have hbnd : Bnd w free := fun _ _ => rfl
  obtain ⟨wq, hwq⟩ : ∃ wq, w.alloc (.cells #[.string dat, .slice sa sn sc, .bool early, .bool broken, .bool wrt, .slice pa pn pc] 25) = wq := ⟨_, rfl⟩
  have hq0 : Step (fun _ => False) w free wq free := by rw [← hwq]; exact (Step.refl _ hbnd).alloc _
  have hb1 : Blk wq w.heap.size [.string dat, .slice sa sn sc, .bool early, .bool broken, .bool wrt, .slice pa pn pc] := by rw [← hwq]; exact Blk.new _ _ _
  have hqs : wq.heap.size = w.heap.size + 1 := by rw [← hwq, sz_alloc]
  obtain ⟨wg, hwg⟩ : ∃ wg, wq.alloc (.cells #[.pointer none, .pointer none, .slice none 0 0, .slice none 0 0, .pointer none] 60) = wg := ⟨_, rfl⟩
  have hg0 : Step (fun k => k = 32) wq free wg (free.give wq.heap.size 32) := by rw [← hwg]; exact ((Step.refl _ hq0.bound).alloc _).give (Nat.le_refl _) (by rw [sz_alloc]; omega) rfl
  have hG : GearAt wg (free.give wq.heap.size 32) wq.heap.size (.pointer none) (.pointer none) (.pointer none) [] [] := by
    refine ⟨none, 0, 0, none, 0, 0, Own.give_same _ _ _, by rw [← hwg]; exact Blk.new _ _ _, ⟨Row.nil _ _ _, fun x hx => by cases hx⟩, ⟨Row.nil _ _ _, fun x hx => by cases hx⟩⟩
  have hwg0 := (hq0.mono (K' := fun k => k = 32) (fun _ h => h.elim)).trans hg0
  have hx1 := hb1.below (by rw [← hwg]; exact (Below.refl _ _).alloc (Nat.le_refl _) _ : Below wq.heap.size wq wg)
  have hlr : ∀ d, decide ((size : Int) < least) = d → d = false := by intro d hd; rw [← hd]; simp; omega
  have k0 : decide ((size : Int) < least) = false := by simp; omega
  have HWG0 := Lib.hid hwg0
  have HG := Lib.hid hG
  have HPW := Lib.hid (hP.step hwg0)
  have HZW := Lib.hid (hZ.step hwg0 (fun _ h => by cases h))
  have HEW := Lib.hid (hE.step hwg0)
  have HTE := Lib.hid (hET.step hwg0)
  have HOK := Lib.hid hok
  have HRES := Lib.hid hres
  have HOUT := Lib.hid hout
  have HRD := Lib.hid hrd
  have HF := Lib.hid hF
  have HLE := Lib.hid hle
  have hplen := hP.len
  have c0 := hx1.cell 0 rfl
  have c1 := hx1.cell 1 rfl
  have c2 := hx1.cell 2 rfl
  have c3 := hx1.cell 3 rfl
  have c4 := hx1.cell 4 rfl
  have c5 := hx1.cell 5 rfl
  clear hlr hx1 hb1 hq0 hg0 hG hwg0 hZ hP hE hET hok hres hrd hF hqs hbnd hout hle
  go_enter Tryd.func22, Tryd.ntmps22
  go_wp2_with fail
  clear hwq hwg c0 c1 c2 c3 c4 c5
  refine (sourceN HG.out HZW.out HPW.out HRD.out (by omega) hd HWG0.out.bound).mono ?_
  rintro e1 w1 ⟨v1, rfl, r1, sh, hsw, g1, hC1, hG1⟩
  have hul : (upto ps pn).length = pn := upto_len (by omega)
  obtain ⟨K0, rv0, hM⟩ := chainMeth hC1
  have hal := chainAlive hC1
  obtain ⟨T, x, hrvE, hm, hcf⟩ := id hM
  have hna := hal T x hrvE
  subst hrvE
  have hmk := run_make_row' (P := Tryd.prog) 78 5 (.int .u8 0) 1 under78 (by kernel_rfl) rfl .i64 .i64 size (by omega) (by omega)
  have hg1 : Step (fun k => k ≤ 34) w1 r1 (w1.alloc (.cells (madeCells #[.int .u8 0] size) 5)) (r1.give w1.heap.size 31) := ((Step.refl _ g1.bound).alloc _).give (Nat.le_refl _) (by simp) (by omega)
  have hg2 : Step (fun k => k = 31) w1 r1 (w1.alloc (.cells (madeCells #[.int .u8 0] size) 5)) (r1.give w1.heap.size 31) := ((Step.refl _ g1.bound).alloc _).give (Nat.le_refl _) (by simp) rfl
  have hrow : RowK (w1.alloc (.cells (madeCells #[.int .u8 0] size) 5)) (r1.give w1.heap.size 31) 31 1 (some ⟨w1.heap.size, 0, none⟩) size size (madeCells #[.int .u8 0] size).toList := by
    refine ⟨⟨by simp [size_madeCells], Nat.le_refl _, by unfold maxLen; omega, .inr ⟨_, _, rfl, Nat.zero_le _, by simp, fun j hj => ?_, fun j hj => ⟨?_, ?_⟩⟩⟩, fun b hb => ?_⟩
    · simp
    · rw [Nat.mul_one] at hj
      have : j < (madeCells #[Value.int .u8 0] size).size := by rw [size_madeCells]; exact hj
      simp [this]
    · exact World.frozen?_new _ _ _ _
    · cases hb; exact Own.give_same _ _ _
  have hstep : Step (fun k => k ≤ 34) w free (w1.alloc (.cells (madeCells #[.int .u8 0] size) 5)) (r1.give w1.heap.size 31) := ((HWG0.out.mono (fun k hk => by omega)).trans (g1.mono (fun k hk => by unfold KG at hk; omega))).trans hg1
  have hrel0 : AlRel least size Res p sh (.iface T x) eb dat.data.toList (some ⟨w1.heap.size, 0, none⟩) w free F (.int .i64 0) .nilIface (w1.alloc (.cells (madeCells #[.int .u8 0] size) 5)) := by
    refine ⟨⟨upto ps pn, srcOf dat.data.toList zs early broken, [], freshT [] 0 false, 0⟩, _, _, 0, rfl, rfl, hstep, hrow, rfl, Nat.zero_le _, (HEW.out.step g1).step hg1, (HTE.out.step g1).step hg1, Nat.zero_le _, .inl ⟨rfl, HOK.out, rfl, rfl, hC1.step hg2 (fun k hk e => by omega) (by omega), (by show (upto ps pn).length < 30; omega), HF.out, HRES.out⟩⟩
  have HREL0 := Lib.hid hrel0
  have HM := Lib.hid hM
  obtain ⟨eo, heo⟩ : ∃ eo, EOFv eb = eo := ⟨_, rfl⟩
  have HEO := Lib.hid heo
  clear hrel0 hrow hg1 hg2 hstep hM hC1 hG1 g1 hul heo hsw hal
  go_wp2_with fail
  generalize (w1.alloc (.cells (madeCells #[.int .u8 0] size) 5)) = wa at HREL0 ⊢
  generalize hba : (some ⟨w1.heap.size, 0, none⟩ : Option Addr) = ba at HREL0 ⊢
  clear hba
  go_loopw [10, 11] (fun t u wb' => ∃ f, AlRel least size Res p sh (.iface T x) eb dat.data.toList ba w free f t u wb') (fun t u wb' => Go.Proofs.YtigfgdefgnahpaaDoor.least (fun f => AlRel least size Res p sh (.iface T x) eb dat.data.toList ba w free f t u wb'))
  case atStart => exact ⟨F, HREL0.out⟩
  case round =>
    obtain ⟨f, hf, hle⟩ : ∃ f, AlRel least size Res p sh (.iface T x) eb dat.data.toList ba w free f u10 u11 wr ∧ f ≤ Go.Proofs.YtigfgdefgnahpaaDoor.least (fun f => AlRel least size Res p sh (.iface T x) eb dat.data.toList ba w free f u10 u11 wr) := ⟨_, least_spec hrel, Nat.le_refl _⟩
    have HLEM := Lib.hid hle
    clear hle hrel HREL0
    obtain ⟨c, rx, xs, e9, rfl, rfl, g, hB, hxs, hts, hEE, hTT, ht65, hcase⟩ := hf
    have hbr := hB.1.rd.max
    unfold maxLen at hbr
    have HG := Lib.hid g
    have HB := Lib.hid hB
    have HXS := Lib.hid hxs
    have HEE := Lib.hid hEE
    have HTT := Lib.hid hTT
    have hrun := Lib.hid (show ∀ wx : World, Below wr.heap.size wr wx → ∀ o : ByteArray, o.data.toList = dat.data.toList.take c.tot → (convert 78 9 (.slice ba c.tot size)).run Tryd.prog wx = .ok (.string o) wx from fun wx hwx o ho => by
      have h1 := (hB.1.rd.below hwx).take (k := c.tot) hts hts (Nat.le_refl _)
      rw [Nat.mul_one, hxs] at h1
      have h2 := conv_row h1
      rw [h2]
      have : (⟨(dat.data.toList.take c.tot).toArray⟩ : ByteArray) = o := by rw [← ho]
      rw [this])
    have hti : (c.tot : Int) ≤ size := by omega
    clear g hB hxs hEE hTT
    rcases hcase with ⟨rfl, hok, htp, hdd, hC, hl30, hrem, hres⟩ | ⟨he9, hres⟩
    · have h00 : errV eb 0 = .nilIface := rfl
      rw [h00] at HLEM ⊢
      clear h00
      by_cases hlt : (c.tot : Int) < least
      · obtain ⟨f, rfl⟩ : ∃ f', f = f' + 1 := ⟨f - 1, by omega⟩
        have k1 : decide ((c.tot : Int) < least) = true := by simpa using hlt
        have hle' := HLE.out
        have htn : c.tot < size := by omega
        obtain ⟨i0, u8i, _, u8s, _⟩ := u8Info
        have hsl := run_slice_from (P := Tryd.prog) 78 5 under78 u8i u8s ba size size c.tot (by omega)
        have hd : Step (fun _ => False) wr rx wr.drew rx := (Step.refl _ HG.out.bound).drew
        have hsub : RowK wr rx 31 1 (slAt ba c.tot size 1) (size - c.tot) (size - c.tot) (xs.drop (c.tot * 1)) := ⟨HB.out.1.from (by omega), fun b hb => HB.out.2 b (by rw [blockOf_slAt] at hb; exact hb)⟩
        have hgood := readM_good c.l c.s (size - c.tot) hok.s hok.l
        have hkk := hok.kk
        have hrd := chainRead (eb := eb) c.l (hC.step hd (fun _ _ h => h) id) hok.s hok.l (by omega) (m := size - c.tot) (by omega) (hsub.step hd id) (by omega) (by omega) hl30 (HEE.out.step hd) hd.bound HM.out
        obtain ⟨n, hn⟩ : ∃ n, (readM c.l c.s (size - c.tot)).n = n := ⟨_, rfl⟩
        obtain ⟨e', he⟩ : ∃ e, (readM c.l c.s (size - c.tot)).e = e := ⟨_, rfl⟩
        have hn1 := hgood.le
        have herr := hgood.err
        have hp3 := hgood.ok.2.2.1
        have hp4 := hgood.bytes
        have hp5 := hok.s.2.2.2
        have hp6 := hgood.pos
        rw [hgood.data] at hp3
        rw [hn] at hn1 hp4
        rw [he] at herr
        rw [hn, he] at hrd
        have htn5 : c.tot + n ≤ 65535 := by rw [htp]; omega
        obtain ⟨T9, hT9⟩ : ∃ T9, c.tot + n = T9 := ⟨_, rfl⟩
        have hT9i : (c.tot : Int) + n = T9 := by omega
        have hpr := fun h => alRound_ok (size := size) hok htp htn h
        have hal9 : alRound size c = ((c.read (size - c.tot)).plus n, if e' = 0 then none else some e') := by unfold alRound; rw [hn, he]
        obtain ⟨ev1, hev1⟩ : ∃ v, errV eb e' = v := ⟨_, rfl⟩
        rw [hev1] at hrd
        have HRDX := Lib.hid hrd
        have HSUB := Lib.hid hsub
        have HCC := Lib.hid (show ∀ ys, ys.take n = B8 ((c.s.data.drop c.s.pos).take n) → (xs.take c.tot ++ ys).take T9 = B8 (dat.data.toList.take T9) by
          intro ys hys
          have hxl : (xs.take c.tot).length = c.tot := by have := HB.out.1.rd.len; rw [List.length_take]; omega
          rw [← hT9, List.take_append, hxl, Nat.add_sub_cancel_left, hys, List.take_of_length_le (by omega), HXS.out, hdd, ← htp, ← B8_append]
          congr 1
          rw [List.take_add, hdd.symm, hdd])
        have HPR := Lib.hid hpr
        have HAL := Lib.hid hal9
        have HRS := Lib.hid hres
        have HREM := Lib.hid hrem
        have HGD := Lib.hid hgood
        have HDD := Lib.hid hdd
        have HL30 := Lib.hid hl30
        have HEV := Lib.hid hev1
        have HERR := Lib.hid herr
        have HNN := Lib.hid (And.intro hn he)
        have HT9 := Lib.hid hT9
        have hT9s : T9 ≤ size := by omega
        have htn5' : T9 ≤ 65535 := by omega
        have HLTT := Lib.hid hlt
        clear hlt hle' hd hsub hgood hkk hrd hn he herr hp3 hp4 hp5 hp6 htn5 hT9 hpr hal9 hev1 hok htp hdd hC hl30 hrem hres
        go_wp2_with fail
        go_region_law (first | (go_simp; refine (HRDX.out).mono ?_; rintro e2 w3 ⟨rfl, hGX⟩; have HGX := Lib.hid hGX; clear hGX))
        all_goals
          have hfin : ∃ f', f' ≤ f ∧ AlRel least size Res p sh (.iface T x) eb dat.data.toList ba w free f' (.int .i64 (T9 : Int)) ev1 w3 := by
            obtain ⟨r3, g3, hC3, ⟨ys, hy1, hy2⟩, hA3⟩ := HGX.out
            rw [HNN.out.1] at hy2
            have hd : Step (fun _ => False) wr rx wr.drew rx := (Step.refl _ HG.out.bound).drew
            have hjoin := (HB.out.step hd id).join htn hy1 hA3
            have g4 : Step (fun k => k ≤ 34) w free w3 r3 := (HG.out.trans (hd.mono (fun _ h => h.elim))).trans (g3.mono (fun k hk => by have := HL30.out; omega))
            have hEE3 := (HEE.out.step hd).step g3
            have hTT3 := (HTT.out.step hd).step g3
            have hxs3 := HCC.out ys hy2
            by_cases he0 : e' = 0
            · have hz : (readM c.l c.s (size - c.tot)).e = 0 := by rw [HNN.out.2]; exact he0
              obtain ⟨k1, k2, k3, k4⟩ := HPR.out hz
              have hnone : (alRound size c).2 = none := by rw [HAL.out, if_pos he0]
              have hrr : alM least size f (alRound size c).1 = Res := by rw [← HRS.out, alM_more HLTT.out hnone]
              rw [HAL.out] at k1 k2 k3 k4 hrr
              refine ⟨f, Nat.le_refl _, (c.read (size - c.tot)).plus n, r3, _, e', ?_, HEV.out.symm, g4, hjoin, ?_, ?_, hEE3, hTT3, ?_, .inl ⟨he0, k1, k3, ?_, hC3, ?_, ?_, hrr⟩⟩
              · show _ = Value.int .i64 ((c.tot + n : Nat) : Int)
                rw [HT9.out]
              · show List.take (c.tot + n) _ = B8 (dat.data.toList.take (c.tot + n))
                rw [HT9.out]; exact hxs3
              · show c.tot + n ≤ size
                rw [HT9.out]; exact hT9s
              · show c.tot + n ≤ 65535
                rw [HT9.out]; exact htn5'
              · exact HGD.out.data.trans HDD.out
              · show (readM c.l c.s (size - c.tot)).l.length < 30
                rw [HGD.out.len]; exact HL30.out
              · have := HREM.out; dsimp only at k2; omega
            · refine ⟨0, Nat.zero_le _, (c.read (size - c.tot)).plus n, r3, _, e', ?_, HEV.out.symm, g4, hjoin, ?_, ?_, hEE3, hTT3, ?_, .inr ⟨?_, ?_⟩⟩
              · show _ = Value.int .i64 ((c.tot + n : Nat) : Int)
                rw [HT9.out]
              · show List.take (c.tot + n) _ = B8 (dat.data.toList.take (c.tot + n))
                rw [HT9.out]; exact hxs3
              · show c.tot + n ≤ size
                rw [HT9.out]; exact hT9s
              · show c.tot + n ≤ 65535
                rw [HT9.out]; exact htn5'
              · rcases HERR.out with h | h
                · exact (he0 h).elim
                · exact h
              · rw [← HRS.out, alM_stop (e := e') HLTT.out (by rw [HAL.out, if_neg he0]), HAL.out]
          have HFIN := Lib.hid hfin
          clear hfin
          go_wp2_with fail
          go_roundw
          case rel =>
            obtain ⟨f', _, h⟩ := HFIN.out
            exact ⟨f', h⟩
          case measure =>
            obtain ⟨f', hle', h⟩ := HFIN.out
            exact Nat.lt_of_le_of_lt (least_le h) (by have := HLEM.out; omega)
      · have k1 : decide ((c.tot : Int) < least) = false := by simpa using hlt
        have k2 : decide ((c.tot : Int) ≥ least) = true := by simp; omega
        have k2' : decide (least ≤ (c.tot : Int)) = true := by simp; omega
        have hR : Res = (c, 0) := by
          obtain ⟨f, rfl⟩ : ∃ f', f = f' + 1 := ⟨f - 1, by omega⟩
          rw [← hres, alM_stay hlt]
        have ho : (dat.data.toList.take c.tot, (0 : Int)) = (out.data.toList, e) := by
          have := HOUT.out
          rw [hR] at this
          unfold alOut at this
          rw [if_pos (by show least ≤ (c.tot : Int); omega)] at this
          exact this
        obtain ⟨ho1, ho2⟩ := Prod.mk.inj ho
        subst ho2
        have hcv := hrun.out wr (Below.refl _ _) out ho1.symm
        clear hok htp hdd hC hl30 hrem hres hR ho ho1 hrun hlt
        go_wp2_with fail
        refine bodyPost_ret (v := .tuple #[.string out, .int .i64 0]) (by simp [results, Tryd.f22, go_sem]) rfl ?_
        exact ⟨rfl, HG.out.below (Nat.le_refl _) (fun _ _ => rfl)⟩
    · by_cases hlt : (c.tot : Int) < least
      · have k1 : decide ((c.tot : Int) < least) = true := by simpa using hlt
        have k2 : decide ((c.tot : Int) ≥ least) = false := by simp; omega
        have k2' : decide (least ≤ (c.tot : Int)) = false := by simp; omega
        have herr : e9 = 0 ∨ e9 = -1 ∨ e9 = 362 ∨ e9 = 363 := .inr he9
        have hne0 : (e9 == 0) = false := by rcases he9 with h | h | h <;> (subst h; rfl)
        obtain ⟨ev9, hev9⟩ : ∃ v, errV eb e9 = v := ⟨_, rfl⟩
        have q2 : ∀ w, (binOp .eql 68 ev9 .nilIface).run Tryd.prog w = .ok (.bool false) w := fun w => by rw [← hev9, ← hne0]; exact eqNn eb herr w
        have gq2 : ∀ a w, (eqGuard .eql 68 a (.const .nilIface) ev9 .nilIface).run Tryd.prog w = .ok () w := fun a w => by rw [← hev9]; exact gdNn eb herr a w
        have cE := HEE.out.2.2
        rw [HEO.out] at cE
        have ho := HOUT.out
        rw [hres] at ho
        unfold alOut at ho
        rw [if_neg (by show ¬ least ≤ (c.tot : Int); omega)] at ho
        dsimp only at ho
        have gq1 : ∀ a b w, (eqGuard .eql 68 a b ev9 eo).run Tryd.prog w = .ok () w := fun a b w => by rw [← hev9, ← HEO.out]; exact gdE eb herr a b w
        by_cases he1 : e9 = -1
        · have q1 : ∀ w, (binOp .eql 68 ev9 eo).run Tryd.prog w = .ok (.bool true) w := fun w => by
            have := eqE eb herr w
            rw [hev9, HEO.out, he1] at this
            exact this
          rw [if_pos he1] at ho
          by_cases ht0 : 0 < c.tot
          · rw [if_pos ht0] at ho
            obtain ⟨ho1, ho2⟩ := Prod.mk.inj ho
            subst ho2
            have hcv := hrun.out wr (Below.refl _ _) out ho1.symm
            have k3 : decide ((c.tot : Int) > 0) = true := by simp; omega
            have k3' : decide (0 < c.tot) = true := by simpa using ht0
            rw [hev9]
            clear ho ho1 hres hrun hlt herr he9 hne0 hev9 he1 ht0
            go_wp2_with fail
            refine bodyPost_ret (v := .tuple #[.string out, .int .i64 364]) (by simp [results, Tryd.f22, go_sem]) rfl ?_
            exact ⟨rfl, HG.out.below (Nat.le_refl _) (fun _ _ => rfl)⟩
          · rw [if_neg ht0] at ho
            obtain ⟨ho1, ho2⟩ := Prod.mk.inj ho
            subst ho2
            have hout0 : out = ⟨#[]⟩ := by
              cases out with
              | mk d =>
                have : d.toList = [] := ho1.symm
                simp at this
                rw [this]
            subst hout0
            have k3 : decide ((c.tot : Int) > 0) = false := by simp; omega
            have k3' : decide (0 < c.tot) = false := by simpa using ht0
            rw [hev9]
            clear ho ho1 hres hrun hlt herr he9 hne0 hev9 he1 ht0
            go_wp2_with fail
            refine bodyPost_ret (v := .tuple #[.string ⟨#[]⟩, .int .i64 365]) (by simp [results, Tryd.f22, go_sem]) rfl ?_
            exact ⟨rfl, HG.out.below (Nat.le_refl _) (fun _ _ => rfl)⟩
        · have q1 : ∀ w, (binOp .eql 68 ev9 eo).run Tryd.prog w = .ok (.bool false) w := fun w => by
            have := eqE eb herr w
            rw [hev9, HEO.out] at this
            rw [this]
            simp [he1]
          rw [if_neg he1] at ho
          obtain ⟨ho1, ho2⟩ := Prod.mk.inj ho
          subst ho2
          rw [hev9]
          have hne9 : e9 ≠ 0 := fun h => by rw [h] at hne0; cases hne0
          have hevv : ev9 = .iface 33 (.int .i64 e9) := by rw [← hev9]; unfold errV; rw [if_neg hne9, if_neg he1]
          subst hevv
          have hkeep : ∀ wx, Below wr.heap.size wr wx → Rd wx 1 ba size size xs := fun wx hb => HB.out.1.rd.below hb
          have HKEEP := Lib.hid hkeep
          have hcvA : ∀ wx, Rd wx 1 ba size size xs → (convert 78 9 (.slice ba c.tot size)).run Tryd.prog wx = .ok (.string out) wx := fun wx hx => by
            have h1 := hx.take (k := c.tot) hts hts (Nat.le_refl _)
            rw [Nat.mul_one, HXS.out, ho1] at h1
            exact conv_row h1
          have hetc : ∀ wx, Below wr.heap.size wr wx → wx.cell? ⟨1, 0, none⟩ = some (.iface 157 (.agg #[.pointer (some ⟨2, 68, none⟩)])) := fun wx hb => cellAt hb HTT.out.2.2
          have ETC := Lib.hid hetc
          clear ho ho1 hres hrun hlt herr he9 hne0 hev9 he1 hne9 hkeep hetc
          go_wp2_with fail
          go_region_held3 (fun wx : World => Rd wx 1 ba size size xs)
            (first | (refine HKEEP.out _ ?_; repeat (first | exact Below.refl _ _ | refine Below.drew ?_ | refine Below.alloc ?_ (by first | (simp; done) | (simp; omega)) _)))
            (first
              | (go_simp; go_at_call 42; refine (numberEx e9 _ (ETC.out _ (by repeat (first | exact Below.refl _ _ | refine Below.drew ?_ | refine Below.alloc ?_ (by first | (simp; done) | (simp; omega)) _)))).mono ?_; rintro e2 w2 ⟨rfl, rfl⟩; unfold numW))
          all_goals
            go_wp2_with fail
            refine bodyPost_ret (v := .tuple #[.string out, .int .i64 e9]) (by simp [results, Tryd.f22, go_sem]) rfl ?_
            refine ⟨rfl, ((HG.out.below (Nat.le_refl _) (fun _ _ => rfl)).trans (Below.mono (B := wr.heap.size) ?_ HG.out.size))⟩
            repeat (first | exact Below.refl _ _ | refine Below.drew ?_ | refine Below.alloc ?_ (by first | (simp; done) | (simp; omega)) _)
      · have k1 : decide ((c.tot : Int) < least) = false := by simpa using hlt
        have k2 : decide ((c.tot : Int) ≥ least) = true := by simp; omega
        have k2' : decide (least ≤ (c.tot : Int)) = true := by simp; omega
        have ho : (dat.data.toList.take c.tot, (0 : Int)) = (out.data.toList, e) := by
          have := HOUT.out
          rw [hres] at this
          unfold alOut at this
          rw [if_pos (by show least ≤ (c.tot : Int); omega)] at this
          exact this
        obtain ⟨ho1, ho2⟩ := Prod.mk.inj ho
        subst ho2
        have hcv := hrun.out wr (Below.refl _ _) out ho1.symm
        obtain ⟨ev9, hev9⟩ : ∃ v, errV eb e9 = v := ⟨_, rfl⟩
        rw [hev9]
        clear hres ho ho1 hrun hlt he9 hev9
        go_wp2_with fail
        refine bodyPost_ret (v := .tuple #[.string out, .int .i64 0]) (by simp [results, Tryd.f22, go_sem]) rfl ?_
        exact ⟨rfl, HG.out.below (Nat.le_refl _) (fun _ _ => rfl)⟩
end Go.Proofs.YtigfgdefgnahpaaDoor
