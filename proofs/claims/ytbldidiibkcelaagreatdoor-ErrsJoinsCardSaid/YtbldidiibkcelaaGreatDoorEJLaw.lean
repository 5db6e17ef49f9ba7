/-
  ErrsJoins (walk): the law. Not a statement of the seat.
-/
import Derived.Test.YtbldidiibkcelaaGreatDoorEJoinP
namespace Go.Proofs.YtbldidiibkcelaaGreatDoor
open Go.RowKit

/-- between two rounds of the first loop -/
def J1Rel (L : Eo) (w1 : World) (t17 t7 : Value) (wr : World) : Prop :=
  ∃ dn rest : Eo, t17 = .int .i64 (dn.len : Nat) ∧ t7 = .int .i64 (nOf dn : Nat) ∧ L = dn.app rest ∧ allOK dn ∧ nOf dn ≤ 16384 ∧ Below w1.heap.size w1 wr
/-- .. of the second -/
def J2Rel (L : Eo) (T : Et) (w1 : World) (t83 t10 t11 : Value) (wr : World) : Prop :=
  ∃ dn rest : Eo, t83 = .int .i64 (dn.len : Nat) ∧ t10 = .bool false ∧ t11 = .int .i64 0 ∧ L = dn.app rest ∧ isL T (filt dn) = (false, 0) ∧ Below w1.heap.size w1 wr
theorem isL_hit {T : Et} {dn ks r2 : Eo} {k2 i2 c2 : Int} {t2 : Bs} {b2 : Dt} {cs2 : List Int} (h : isL T (filt dn) = (false, 0)) (hk : k2 ≠ 0) (hd : decd (is1 T k2 i2 c2 t2 b2 cs2 ks) = true) : isL T (filt (dn.app (.cons k2 i2 c2 t2 b2 cs2 ks r2))) = is1 T k2 i2 c2 t2 b2 cs2 ks := by
  rw [filt_app, isL_app, h, filt, if_neg hk, isL_cons, hd]
  rfl
theorem isL_miss {T : Et} {dn ks : Eo} {k2 i2 c2 : Int} {t2 : Bs} {b2 : Dt} {cs2 : List Int} (h : isL T (filt dn) = (false, 0)) (hk : k2 ≠ 0) (hd : is1 T k2 i2 c2 t2 b2 cs2 ks = (false, 0)) : isL T (filt (dn.app (.cons k2 i2 c2 t2 b2 cs2 ks .nil))) = (false, 0) := by
  rw [filt_app, isL_app, h, filt_one hk, isL_one, hd]
  rfl
theorem isL_none {T : Et} {dn ks : Eo} {i2 c2 : Int} {t2 : Bs} {b2 : Dt} {cs2 : List Int} (h : isL T (filt dn) = (false, 0)) : isL T (filt (dn.app (.cons 0 i2 c2 t2 b2 cs2 ks .nil))) = (false, 0) := by
  rw [filt_app, filt_none, Eo.app_nil, h]
theorem jE_eq {id : Int} {L : Eo} (h : (jE id L).k ≠ 0) : jE id L = ⟨4, id, 0, [], Dt.zero, [], filt L⟩ := by
  unfold jE at h ⊢
  split at h
  · exact absurd rfl h
  · rename_i hf
    rw [if_neg hf]
theorem jE_small {id : Int} {L : Eo} (h : L.small) : (jE id L).cs.length ≤ 140737488355328 ∧ (jE id L).l.small := by
  unfold jE
  split
  · exact ⟨Nat.zero_le _, trivial⟩
  · exact ⟨Nat.zero_le _, small_filt L h⟩

set_option maxRecDepth 100000 in
set_option maxHeartbeats 32000000 in
theorem errsJoinsT {a0 : Addr} {S : Nat → Prop} {L : Eo} {lL : Option Addr} {nL cL : Nat} {id : Int} {tk ti tc : Int} {tt : Bs} {tb : Dt} {tcs : List Int} {tl : Eo} {bl : Option Addr} {bn bc : Nat} {cl : Option Addr} {cn cc : Nat} {l : Option Addr} {n cap : Nat} {w : World}
    (hF : EoAt S w L lL nL cL) (hLs : L.small) (hE : ErAt S w ⟨tk, ti, tc, tt, tb, tcs, tl⟩ bl bn bc cl cn cc l n cap) (hS : ∀ x, S x → x < w.heap.size) (hcs : tcs.length ≤ 140737488355328) (hks : tl.small) (hL : LB a0 w) :
    Calls Tryz.prog 5 #[.slice lL nL cL, .int .i64 id, vE tk ti tc tt tb bl bn bc cl cn cc l n cap] w (fun r w' => r = .returned (.bool true) ∧ Below w.heap.size w w') := by
  have hA := ebox_blk w tk ti tc tt tb bl bn bc cl cn cc l n cap
  have hB := ebox_below w tk ti tc tt tb bl bn bc cl cn cc l n cap
  have hs1 := ebox_size w tk ti tc tt tb bl bn bc cl cn cc l n cap
  have HFx := Lib.hid (show ∀ wx, Below w.heap.size w wx → EoAt S wx L lL nL cL from fun wx hx => hF.same (fun x _ hlt => hx.block x hlt) (fun x hx _ => hx))
  have HEx := Lib.hid (show ∀ wx, Below w.heap.size w wx → ErAt S wx ⟨tk, ti, tc, tt, tb, tcs, tl⟩ bl bn bc cl cn cc l n cap from fun wx hx => hE.same (fun x _ hlt => hx.block x hlt) (fun x hx _ => hx))
  have HSx := Lib.hid (show ∀ wx, Below w.heap.size w wx → ∀ x, S x → x < wx.heap.size from fun wx hx x hx' => Nat.lt_of_lt_of_le (hS x hx') hx.size)
  have HVT := Lib.hid (fun (wx : World) (hx : Below w.heap.size w wx) => show Calls Tryz.prog 10 #[vE tk ti tc tt tb bl bn bc cl cn cc l n cap] wx (fun r w' => r = .returned (.bool (ervalidM ⟨tk, ti, tc, tt, tb, tcs, tl⟩)) ∧ Below wx.heap.size wx w') from ervalidN (HEx.out wx hx) (HSx.out wx hx) hcs hks)
  have HW := Lib.hid (fun (wx : World) => awakeT wx)
  have HLs := Lib.hid hLs
  have HLB := Lib.hid (show ∀ wx, Below w.heap.size w wx → LB a0 wx from fun wx hx => hL.below hx)
  have HTO := Lib.hid (ervalid_ok ⟨tk, ti, tc, tt, tb, tcs, tl⟩).1
  have HLEN := Lib.hid hF.len
  have hnb : nL ≤ 9223372036854775807 := by
    obtain ⟨vs, ⟨h1, _⟩, _⟩ := hF
    have h2 := h1.le
    have h3 := h1.max
    unfold maxLen at h3
    omega
  unfold vE at HVT ⊢
  clear hF hE hS hcs hks hL hLs
  go_enter Tryz.func5, Tryz.ntmps5
  go_upto_region 1 with (fail)
  change Code.wp _ _ _ _ (ebox w tk ti tc tt tb bl bn bc cl cn cc l n cap)
  generalize ebox w tk ti tc tt tb bl bn bc cl cn cc l n cap = w1 at *
  obtain ⟨q, hq⟩ : ∃ x, x = w.heap.size := ⟨_, rfl⟩
  rw [← hq] at hA
  rw [← hq]
  have HA := Lib.hid hA
  have HB := Lib.hid hB
  have H0 := Lib.hid (show J1Rel L w1 (.int .i64 0) (.int .i64 0) w1 from ⟨.nil, L, rfl, rfl, rfl, trivial, Nat.zero_le _, Below.refl _ _⟩)
  clear hA hB hs1 hq
  go_wp2_with fail
  go_loopw [17, 7] (fun t17 t7 wr => J1Rel L w1 t17 t7 wr) (fun t17 _ _ => nL - (intOf t17).toNat)
  case atStart => exact H0.out
  case round =>
    clear H0
    obtain ⟨dn, rest, rfl, rfl, hk, hall, hno, hBr⟩ := hrel
    obtain ⟨w2, rfl⟩ : ∃ x, x = wr := ⟨_, rfl⟩
    have hlen := HLEN.out
    rw [hk, Eo.len_app] at hlen
    have HBr := Lib.hid (HB.out.trans (hBr.mono HB.out.size))
    have HB1r := Lib.hid hBr
    cases rest with
    | nil =>
      have hj : ¬ (dn.len : Int) < (nL : Int) := by have : Eo.len .nil = 0 := rfl; omega
      have hke : L = dn := by rw [hk, Eo.app_nil]
      have HALL := Lib.hid (show allOK L ∧ nOf L ≤ 16384 from by rw [hke]; exact ⟨hall, hno⟩)
      have hno9 := hno
      have HQ := Lib.hid (HA.out.below hBr)
      clear hk hlen hke hall hBr
      have x0 := HQ.out.cell 0 rfl
      have x1 := HQ.out.cell 1 rfl
      have x2 := HQ.out.cell 2 rfl
      have x3 := HQ.out.cell 3 rfl
      have x4 := HQ.out.cell 4 rfl
      have x5 := HQ.out.cell 5 rfl
      have x6 := HQ.out.cell 6 rfl
      have x7 := HQ.out.cell 7 rfl
      have x8 := HQ.out.cell 8 rfl
      have x9 := HQ.out.cell 9 rfl
      have x10 := HQ.out.cell 10 rfl
      by_cases hid : id < 1
      · go_wp2_with (go_at_call 11; (with_reducible refine (HW.out _).mono ?_); rintro r5 w5 ⟨rfl, hB⟩; have HB5 := Lib.hid (bel_tr HBr.out hB); clear hB)
        go_ret
        exact ⟨rfl, HB5.out⟩
      have HJN := Lib.hid (fun (wx : World) (hx : Below w.heap.size w wx) => ejoinN (id := id) (HFx.out wx hx) (HSx.out wx hx) (by have := len_nOf L; have := HALL.out.2; omega) (okC_all L HALL.out.1) (rngK_all L HALL.out.1))
      have HRJ := Lib.hid (fun (wx : World) (hx : Below w.heap.size w wx) => rjoinN (id := id) (HFx.out wx hx) (HSx.out wx hx) (by have := len_nOf L; have := HALL.out.2; omega) (okC_all L HALL.out.1) (rngK_all L HALL.out.1))
      have HJS := Lib.hid (jE_small (id := id) HLs.out)
      have HJE := Lib.hid (fun h => jE_eq (id := id) (L := L) h)
      generalize jE id L = J at *
      obtain ⟨jk, ji, jc, jt, jb, jcs, jl⟩ := J
      dsimp only at *
      generalize ervalidM ⟨tk, ti, tc, tt, tb, tcs, tl⟩ = v at *
      cases v
      · go_wp2_with (first
          | (go_at_call 10; (with_reducible refine (HVT.out _ HBr.out).mono ?_); rintro r3 w3 ⟨rfl, hB⟩; have HB3 := Lib.hid (bel_tr HBr.out hB); clear hB)
          | (go_at_call 11; (with_reducible refine (HW.out _).mono ?_); rintro r4 w4 ⟨rfl, hB⟩; have HB4 := Lib.hid (bel_tr HB3.out hB); clear hB))
        go_ret
        exact ⟨rfl, HB4.out⟩
      have HTK := Lib.hid (HTO.out rfl)
      clear HTO
      go_upto_region 14 with (first
        | (go_at_call 10; (with_reducible refine (HVT.out _ HBr.out).mono ?_); rintro r3 w3 ⟨rfl, hB⟩; have HB3 := Lib.hid (bel_tr HBr.out hB); have HQ3 := Lib.hid (HQ.out.below hB); clear hB)
        | (go_at_call 22; (with_reducible refine (HJN.out _ HB3.out).mono ?_); intro r4 w4 h4; obtain ⟨blj, bnj, bcj, clj, cnj, ccj, lj, nj, capj, rfl, hEj, hBj⟩ := CLE.er h4; clear h4; unfold vE; have HEJ := Lib.hid hEj.lt; have HB4 := Lib.hid (bel_tr HB3.out hBj); have HQ4 := Lib.hid (HQ3.out.below hBj); clear hEj hBj))
      change Code.wp _ _ _ _ (ebox w4 jk ji jc jt jb blj bnj bcj clj cnj ccj lj nj capj)
      have hJ5 := ebox_blk w4 jk ji jc jt jb blj bnj bcj clj cnj ccj lj nj capj
      have hB5 := ebox_below w4 jk ji jc jt jb blj bnj bcj clj cnj ccj lj nj capj
      generalize ebox w4 jk ji jc jt jb blj bnj bcj clj cnj ccj lj nj capj = w5 at *
      obtain ⟨z, hz⟩ : ∃ x, x = w4.heap.size := ⟨_, rfl⟩
      rw [← hz] at hJ5
      rw [← hz]
      have HB5 := Lib.hid (bel_tr HB4.out hB5)
      have HQ5 := Lib.hid (HQ4.out.below hB5)
      have HJ5 := Lib.hid hJ5
      have HEJ5 := Lib.hid (show ∀ wx, Below w5.heap.size w5 wx → ErAt (fun x => x < wx.heap.size) wx ⟨jk, ji, jc, jt, jb, jcs, jl⟩ blj bnj bcj clj cnj ccj lj nj capj from fun wx hx => (HEJ.out.same (w' := wx) (fun x _ hlt => (bel_tr hB5 hx).block x hlt) (fun x hx' _ => hx')).lt)
      have HSM := Lib.hid (fun (wx : World) (hx : Below w5.heap.size w5 wx) (bk : Option Addr) (b1 b2 : Nat) (ck : Option Addr) (c1 c2 : Nat) (lk : Option Addr) (l1 l2 : Nat) (he : ErAt (fun x => x < wx.heap.size) wx ⟨jk, ji, jc, jt, jb, jcs, jl⟩ bk b1 b2 ck c1 c2 lk l1 l2) => ersameG jl jl _ _ _ _ _ _ _ _ _ _ _ _ _ _ _ _ _ _ _ _ _ _ _ _ _ _ _ _ _ _ (fun x => x < wx.heap.size) wx (HEJ5.out wx hx) he (fun _ h => h))
      have hsm1 := esame1_refl jk ji jc jt jb jcs jl
      rw [hsm1] at HSM
      have HBc := Lib.hid (Below.refl w5.heap.size w5)
      have HKJ := Lib.hid (show ∀ wx, Below w5.heap.size w5 wx → (wx.cell? ⟨z, 0, none⟩ = some (.int .i64 jk) ∧ wx.cell? ⟨z, 1, none⟩ = some (.int .i64 ji) ∧ wx.cell? ⟨z, 2, none⟩ = some (.int .i64 jc) ∧ wx.cell? ⟨z, 3, none⟩ = some (.string ⟨jt.toArray⟩) ∧ wx.cell? ⟨z, 4, none⟩ = some (.int .i64 jb.k) ∧ wx.cell? ⟨z, 5, none⟩ = some (.int .i64 jb.i) ∧ wx.cell? ⟨z, 6, none⟩ = some (.int .u64 jb.b) ∧ wx.cell? ⟨z, 7, none⟩ = some (.string ⟨jb.t.toArray⟩) ∧ wx.cell? ⟨z, 8, none⟩ = some (.slice blj bnj bcj) ∧ wx.cell? ⟨z, 9, none⟩ = some (.slice clj cnj ccj) ∧ wx.cell? ⟨z, 10, none⟩ = some (.slice lj nj capj)) from fun wx hx => by
        have a := HJ5.out.below hx
        exact ⟨a.cell 0 rfl, a.cell 1 rfl, a.cell 2 rfl, a.cell 3 rfl, a.cell 4 rfl, a.cell 5 rfl, a.cell 6 rfl, a.cell 7 rfl, a.cell 8 rfl, a.cell 9 rfl, a.cell 10 rfl⟩)
      unfold vE at HSM
      clear hJ5 hB5 hz hsm1 HJN HVT x0 x1 x2 x3 x4 x5 x6 x7 x8 x9 x10 HQ HQ3 HQ4 HEJ
      go_region_held3 (fun wx : World => wx.cell? ⟨z, 0, none⟩ = some (.int .i64 jk) ∧ wx.cell? ⟨z, 1, none⟩ = some (.int .i64 ji) ∧ wx.cell? ⟨z, 2, none⟩ = some (.int .i64 jc) ∧ wx.cell? ⟨z, 3, none⟩ = some (.string ⟨jt.toArray⟩) ∧ wx.cell? ⟨z, 4, none⟩ = some (.int .i64 jb.k) ∧ wx.cell? ⟨z, 5, none⟩ = some (.int .i64 jb.i) ∧ wx.cell? ⟨z, 6, none⟩ = some (.int .u64 jb.b) ∧ wx.cell? ⟨z, 7, none⟩ = some (.string ⟨jb.t.toArray⟩) ∧ wx.cell? ⟨z, 8, none⟩ = some (.slice blj bnj bcj) ∧ wx.cell? ⟨z, 9, none⟩ = some (.slice clj cnj ccj) ∧ wx.cell? ⟨z, 10, none⟩ = some (.slice lj nj capj))
        (first | exact HKJ.out _ HBc.out | exact HKJ.out _ (bel_dr HBc.out) | exact HKJ.out _ HB6c.out | exact HKJ.out _ HB7c.out)
        (first
          | (go_simp; go_at_call 23; (with_reducible refine (HRJ.out _ (bel_dr HB5.out)).mono ?_); intro r6 w6 h6; obtain ⟨blk, bnk, bck, clk, cnk, cck, lk, nk, capk, rfl, hEk, hBk⟩ := CLE.er h6; clear h6; unfold vE; have HEK := Lib.hid hEk.lt; have HB6 := Lib.hid (bel_tr (bel_dr HB5.out) hBk); have HB6c := Lib.hid (bel_tr (bel_dr HBc.out) hBk); clear hEk hBk)
          | (go_simp; go_at_call 15; (with_reducible refine (HSM.out _ HB6c.out _ _ _ _ _ _ _ _ _ HEK.out).mono ?_); rintro r7 w7 ⟨rfl, hB⟩; have HB7 := Lib.hid (bel_tr HB6.out hB); have HB7c := Lib.hid (bel_tr HB6c.out hB); clear hB))
      have HQ7 := Lib.hid (HQ5.out.below HB7c.out)
      have HJ7 := Lib.hid (HJ5.out.below HB7c.out)
      have HVJ := Lib.hid (show Calls Tryz.prog 10 #[vE jk ji jc jt jb blj bnj bcj clj cnj ccj lj nj capj] w7 (fun r w' => r = .returned (.bool (ervalidM ⟨jk, ji, jc, jt, jb, jcs, jl⟩)) ∧ Below w7.heap.size w7 w') from ervalidN (HEJ5.out w7 HB7c.out) (fun _ h => h) HJS.out.1 HJS.out.2)
      have hvj := (ervalid_ok ⟨jk, ji, jc, jt, jb, jcs, jl⟩).1
      unfold vE at HVJ
      clear HSM HRJ HEK HQ5 HBc HB6 HB6c HKJ
      generalize ervalidM ⟨jk, ji, jc, jt, jb, jcs, jl⟩ = vj at *
      have y0 := HJ7.out.cell 0 rfl
      have x0 := HQ7.out.cell 0 rfl
      have y1 := HJ7.out.cell 1 rfl
      have x1 := HQ7.out.cell 1 rfl
      have y2 := HJ7.out.cell 2 rfl
      have x2 := HQ7.out.cell 2 rfl
      have y3 := HJ7.out.cell 3 rfl
      have x3 := HQ7.out.cell 3 rfl
      have y4 := HJ7.out.cell 4 rfl
      have x4 := HQ7.out.cell 4 rfl
      have y5 := HJ7.out.cell 5 rfl
      have x5 := HQ7.out.cell 5 rfl
      have y6 := HJ7.out.cell 6 rfl
      have x6 := HQ7.out.cell 6 rfl
      have y7 := HJ7.out.cell 7 rfl
      have x7 := HQ7.out.cell 7 rfl
      have y8 := HJ7.out.cell 8 rfl
      have x8 := HQ7.out.cell 8 rfl
      have y9 := HJ7.out.cell 9 rfl
      have x9 := HQ7.out.cell 9 rfl
      have y10 := HJ7.out.cell 10 rfl
      have x10 := HQ7.out.cell 10 rfl
      cases vj
      · clear hvj
        go_wp2_with (first
          | (go_at_call 10; (with_reducible refine HVJ.out.mono ?_); rintro r8 w8 ⟨rfl, hB⟩; have HB8 := Lib.hid (bel_tr HB7.out hB); have HB8c := Lib.hid (bel_tr HB7c.out hB); have HB78 := Lib.hid hB; replace x0 := cellAt hB x0; replace y0 := cellAt hB y0; replace x1 := cellAt hB x1; replace y1 := cellAt hB y1; replace x2 := cellAt hB x2; replace y2 := cellAt hB y2; replace x3 := cellAt hB x3; replace y3 := cellAt hB y3; replace x4 := cellAt hB x4; replace y4 := cellAt hB y4; replace x5 := cellAt hB x5; replace y5 := cellAt hB y5; replace x6 := cellAt hB x6; replace y6 := cellAt hB y6; replace x7 := cellAt hB x7; replace y7 := cellAt hB y7; replace x8 := cellAt hB x8; replace y8 := cellAt hB y8; replace x9 := cellAt hB x9; replace y9 := cellAt hB y9; replace x10 := cellAt hB x10; replace y10 := cellAt hB y10; clear hB)
          | (go_at_call 11; (with_reducible refine (HW.out _).mono ?_); rintro r9 w9 ⟨rfl, hB⟩; have HB9 := Lib.hid (bel_tr HB8.out hB); clear hB))
        go_ret
        exact ⟨rfl, HB9.out⟩
      have HJO := Lib.hid (hvj rfl)
      clear hvj
      by_cases hj0 : jk = 0
      · subst hj0
        clear HJE HJS HJO
        go_wp2_with (first
          | (go_at_call 10; (with_reducible refine HVJ.out.mono ?_); rintro r8 w8 ⟨rfl, hB⟩; have HB8 := Lib.hid (bel_tr HB7.out hB); have HB8c := Lib.hid (bel_tr HB7c.out hB); have HB78 := Lib.hid hB; replace x0 := cellAt hB x0; replace y0 := cellAt hB y0; replace x1 := cellAt hB x1; replace y1 := cellAt hB y1; replace x2 := cellAt hB x2; replace y2 := cellAt hB y2; replace x3 := cellAt hB x3; replace y3 := cellAt hB y3; replace x4 := cellAt hB x4; replace y4 := cellAt hB y4; replace x5 := cellAt hB x5; replace y5 := cellAt hB y5; replace x6 := cellAt hB x6; replace y6 := cellAt hB y6; replace x7 := cellAt hB x7; replace y7 := cellAt hB y7; replace x8 := cellAt hB x8; replace y8 := cellAt hB y8; replace x9 := cellAt hB x9; replace y9 := cellAt hB y9; replace x10 := cellAt hB x10; replace y10 := cellAt hB y10; clear hB)
          | (go_at_call 11; (with_reducible refine (HW.out _).mono ?_); rintro r9 w9 ⟨rfl, hB⟩; have HB9 := Lib.hid (bel_tr HB8.out hB); clear hB))
        go_ret
        exact ⟨rfl, HB9.out⟩
      have hj0b : (jk == 0) = false := by simp [hj0]
      by_cases ht0 : tk = 0
      · subst ht0
        go_wp2_with (first
          | (go_at_call 10; (with_reducible refine HVJ.out.mono ?_); rintro r8 w8 ⟨rfl, hB⟩; have HB8 := Lib.hid (bel_tr HB7.out hB); have HB8c := Lib.hid (bel_tr HB7c.out hB); have HB78 := Lib.hid hB; replace x0 := cellAt hB x0; replace y0 := cellAt hB y0; replace x1 := cellAt hB x1; replace y1 := cellAt hB y1; replace x2 := cellAt hB x2; replace y2 := cellAt hB y2; replace x3 := cellAt hB x3; replace y3 := cellAt hB y3; replace x4 := cellAt hB x4; replace y4 := cellAt hB y4; replace x5 := cellAt hB x5; replace y5 := cellAt hB y5; replace x6 := cellAt hB x6; replace y6 := cellAt hB y6; replace x7 := cellAt hB x7; replace y7 := cellAt hB y7; replace x8 := cellAt hB x8; replace y8 := cellAt hB y8; replace x9 := cellAt hB x9; replace y9 := cellAt hB y9; replace x10 := cellAt hB x10; replace y10 := cellAt hB y10; clear hB)
          | (go_at_call 11; (with_reducible refine (HW.out _).mono ?_); rintro r9 w9 ⟨rfl, hB⟩; have HB9 := Lib.hid (bel_tr HB8.out hB); clear hB))
        go_ret
        exact ⟨rfl, HB9.out⟩
      have ht0b : (tk == 0) = false := by simp [ht0]
      have hc : (tk = 4 ∧ ti = id) ∨ (tk ≠ 4) ∨ (tk = 4 ∧ ti ≠ id) := by omega
      rcases hc with ⟨h4, h5⟩ | hc
      · have h4b : (tk == 4) = true := by simp [h4]
        have h5b : (ti == id) = true := by simp [h5]
        clear h4 h5
        go_wp2_with (first
          | (go_at_call 10; (with_reducible refine HVJ.out.mono ?_); rintro r8 w8 ⟨rfl, hB⟩; have HB8 := Lib.hid (bel_tr HB7.out hB); have HB8c := Lib.hid (bel_tr HB7c.out hB); have HB78 := Lib.hid hB; replace x0 := cellAt hB x0; replace y0 := cellAt hB y0; replace x1 := cellAt hB x1; replace y1 := cellAt hB y1; replace x2 := cellAt hB x2; replace y2 := cellAt hB y2; replace x3 := cellAt hB x3; replace y3 := cellAt hB y3; replace x4 := cellAt hB x4; replace y4 := cellAt hB y4; replace x5 := cellAt hB x5; replace y5 := cellAt hB y5; replace x6 := cellAt hB x6; replace y6 := cellAt hB y6; replace x7 := cellAt hB x7; replace y7 := cellAt hB y7; replace x8 := cellAt hB x8; replace y8 := cellAt hB y8; replace x9 := cellAt hB x9; replace y9 := cellAt hB y9; replace x10 := cellAt hB x10; replace y10 := cellAt hB y10; clear hB)
          | (go_at_call 11; (with_reducible refine (HW.out _).mono ?_); rintro r9 w9 ⟨rfl, hB⟩; have HB9 := Lib.hid (bel_tr HB8.out hB); clear hB))
        go_ret
        exact ⟨rfl, HB9.out⟩
      have hne : ¬ (tk = 4 ∧ ti = id) := by omega
      have hIS : isTop ⟨tk, ti, tc, tt, tb, [], .nil⟩ jk ji jc jt jb jcs jl = isL ⟨tk, ti, tc, tt, tb, [], .nil⟩ (filt L) := by
        have h := HJE.out hj0
        simp only [Et.mk.injEq] at h
        obtain ⟨rfl, rfl, rfl, rfl, rfl, rfl, rfl⟩ := h
        exact is_join ht0 hne
      have HIJ := Lib.hid (fun (wx : World) (hx : Below w5.heap.size w5 wx) => show Calls Tryz.prog 16 #[vE jk ji jc jt jb blj bnj bcj clj cnj ccj lj nj capj, vE tk ti tc tt tb bl bn bc cl cn cc l n cap] wx (fun e w' => e = .returned (.tuple #[.bool (isL ⟨tk, ti, tc, tt, tb, [], .nil⟩ (filt L)).1, .int .i64 (isL ⟨tk, ti, tc, tt, tb, [], .nil⟩ (filt L)).2]) ∧ Below wx.heap.size wx w') from by
        have h := is16g HJO.out.rng HTK.out.rng (HEJ5.out wx hx) ((HEx.out wx (bel_tr HB5.out hx)).lt.1) (fun _ h => h) (HLB.out wx (bel_tr HB5.out hx)) (c' := tc) (t' := tt) (i' := ti) (cl' := cl) (cn' := cn) (cc' := cc) (l' := l) (n' := n) (cap' := cap) HTK.out.body HJO.out.2.2.1 (by have h2 := HJO.out.2.1; dsimp only at h2; omega)
        dsimp only at h
        rw [hIS] at h
        exact h)
      unfold vE at HIJ
      have H0 := Lib.hid (fun (w8 : World) => show J2Rel L ⟨tk, ti, tc, tt, tb, [], .nil⟩ w8 (.int .i64 0) (.bool false) (.int .i64 0) w8 from ⟨.nil, L, rfl, rfl, rfl, rfl, rfl, Below.refl _ _⟩)
      clear hIS hne HJE HJS HJO
      have hcb : (tk == 4) = false ∨ ((tk == 4) = true ∧ (ti == id) = false) := by
        rcases hc with h4 | ⟨h4, h4i⟩
        · exact .inl (by simp [h4])
        · exact .inr ⟨by simp [h4], by simp [h4i]⟩
      clear hc
      rcases hcb with h4 | ⟨h4, h4i⟩
      all_goals
        trace_state
        go_wp2_with (go_at_call 10; (with_reducible refine HVJ.out.mono ?_); rintro r8 w8 ⟨rfl, hB⟩; have HB8 := Lib.hid (bel_tr HB7.out hB); have HB8c := Lib.hid (bel_tr HB7c.out hB); have HB78 := Lib.hid hB; replace x0 := cellAt hB x0; replace y0 := cellAt hB y0; replace x1 := cellAt hB x1; replace y1 := cellAt hB y1; replace x2 := cellAt hB x2; replace y2 := cellAt hB y2; replace x3 := cellAt hB x3; replace y3 := cellAt hB y3; replace x4 := cellAt hB x4; replace y4 := cellAt hB y4; replace x5 := cellAt hB x5; replace y5 := cellAt hB y5; replace x6 := cellAt hB x6; replace y6 := cellAt hB y6; replace x7 := cellAt hB x7; replace y7 := cellAt hB y7; replace x8 := cellAt hB x8; replace y8 := cellAt hB y8; replace x9 := cellAt hB x9; replace y9 := cellAt hB y9; replace x10 := cellAt hB x10; replace y10 := cellAt hB y10; clear hB)
        have HQ8 := Lib.hid (HQ7.out.below HB78.out)
        have HJ8 := Lib.hid (HJ7.out.below HB78.out)
        clear x0 y0 x1 y1 x2 y2 x3 y3 x4 y4 x5 y5 x6 y6 x7 y7 x8 y8 x9 y9 x10 y10 HQ7 HJ7 HVJ
        go_loopw [83, 10, 11] (fun t83 t10 t11 wr => J2Rel L ⟨tk, ti, tc, tt, tb, [], .nil⟩ w8 t83 t10 t11 wr) (fun t83 _ _ _ => nL - (intOf t83).toNat)
        case atStart => exact H0.out _
        case round =>
          clear H0
          obtain ⟨dn2, rest2, rfl, rfl, rfl, hk, hil, hBr2⟩ := hrel
          obtain ⟨w10, rfl⟩ : ∃ x, x = wr := ⟨_, rfl⟩
          have HBT := Lib.hid (bel_tr HB8.out hBr2)
          have HBTc := Lib.hid (bel_tr HB8c.out hBr2)
          have HB810 := Lib.hid hBr2
          have HQT := Lib.hid (HQ8.out.below hBr2)
          have HZT := Lib.hid (HJ8.out.below hBr2)
          have hlen := HLEN.out
          rw [hk, Eo.len_app] at hlen
          cases rest2 with
          | nil =>
            have hj2 : ¬ (dn2.len : Int) < (nL : Int) := by have : Eo.len .nil = 0 := rfl; omega
            have hrl : isL ⟨tk, ti, tc, tt, tb, [], .nil⟩ (filt L) = (false, 0) := by rw [hk, Eo.app_nil]; exact hil
            rw [hrl] at HIJ
            clear hk hlen hrl hil hBr2
            have y0 := HZT.out.cell 0 rfl
            have x0 := HQT.out.cell 0 rfl
            have y1 := HZT.out.cell 1 rfl
            have x1 := HQT.out.cell 1 rfl
            have y2 := HZT.out.cell 2 rfl
            have x2 := HQT.out.cell 2 rfl
            have y3 := HZT.out.cell 3 rfl
            have x3 := HQT.out.cell 3 rfl
            have y4 := HZT.out.cell 4 rfl
            have x4 := HQT.out.cell 4 rfl
            have y5 := HZT.out.cell 5 rfl
            have x5 := HQT.out.cell 5 rfl
            have y6 := HZT.out.cell 6 rfl
            have x6 := HQT.out.cell 6 rfl
            have y7 := HZT.out.cell 7 rfl
            have x7 := HQT.out.cell 7 rfl
            have y8 := HZT.out.cell 8 rfl
            have x8 := HQT.out.cell 8 rfl
            have y9 := HZT.out.cell 9 rfl
            have x9 := HQT.out.cell 9 rfl
            have y10 := HZT.out.cell 10 rfl
            have x10 := HQT.out.cell 10 rfl
            go_wp2_with (first
              | (go_at_call 16; (with_reducible refine (HIJ.out _ HBTc.out).mono ?_); rintro r20 w20 ⟨rfl, hB⟩; have HB20 := Lib.hid (bel_tr HBT.out hB); clear hB)
              | (go_at_call 11; (with_reducible refine (HW.out _).mono ?_); rintro r21 w21 ⟨rfl, hB⟩; have HB21 := Lib.hid (bel_tr HB20.out hB); clear hB))
            go_ret
            exact ⟨rfl, HB21.out⟩
          | cons k2 i2 c2 t2 b2 cs2 ks r2 =>
            have hlr : (Eo.cons k2 i2 c2 t2 b2 cs2 ks r2).len = r2.len + 1 := rfl
            have hFr := HFx.out w10 HBT.out
            rw [hk] at hFr
            obtain ⟨bb, off, bl2, bn2, bc2, cl2, cn2, cc2, a2, n2, cp2, rfl, hkF, he, _, hjn⟩ := hFr.elem
            have e0 := he 0 (by omega)
            have e1 := he 1 (by omega)
            have e2 := he 2 (by omega)
            have e3 := he 3 (by omega)
            have e4 := he 4 (by omega)
            have e5 := he 5 (by omega)
            have e6 := he 6 (by omega)
            have e7 := he 7 (by omega)
            have e8 := he 8 (by omega)
            have e9 := he 9 (by omega)
            have e10 := he 10 (by omega)
            simp only [V11, List.getElem?_cons_zero, List.getElem?_cons_succ, Nat.add_zero] at e0 e1 e2 e3 e4 e5 e6 e7 e8 e9 e10
            have hj2 : (dn2.len : Int) < (nL : Int) := by omega
            have hel : okE ⟨k2, i2, c2, t2, b2, cs2, ks⟩ := (show allOK (.cons k2 i2 c2 t2 b2 cs2 ks r2) from allOK_split dn2 (hk ▸ HALL.out.1)).1
            by_cases hk2 : k2 = 0
            · subst hk2
              have HKK := Lib.hid hk
              have HIL := Lib.hid hil
              generalize hjj : dn2.len = j at *
              have HJJ := Lib.hid hjj
              clear hk hlen hil hBr2 hkF hFr he hlr hel hjj
              go_wp2_with fail
              go_roundw
              case rel =>
                exact ⟨dn2.app (.cons 0 i2 c2 t2 b2 cs2 ks .nil), r2, by rw [Eo.len_app, HJJ.out]; simp [Eo.len], rfl, rfl, by rw [Eo.app_assoc]; exact HKK.out, isL_none HIL.out, HB810.out⟩
              case measure => simp [intOf]; omega
            · have hk2b : (k2 == 0) = false := by simp [hk2]
              have HIE := Lib.hid (fun (wx : World) (hx : Below w10.heap.size w10 wx) => show Calls Tryz.prog 16 #[vE k2 i2 c2 t2 b2 bl2 bn2 bc2 cl2 cn2 cc2 a2 n2 cp2, vE tk ti tc tt tb bl bn bc cl cn cc l n cap] wx (fun e w' => e = .returned (.tuple #[.bool (is1 ⟨tk, ti, tc, tt, tb, [], .nil⟩ k2 i2 c2 t2 b2 cs2 ks).1, .int .i64 (is1 ⟨tk, ti, tc, tt, tb, [], .nil⟩ k2 i2 c2 t2 b2 cs2 ks).2]) ∧ Below wx.heap.size wx w') from by
                have h := is16g hel.rng HTK.out.rng (hkF.same (w' := wx) (fun x _ hlt => hx.block x hlt) (fun x hx' _ => hx')) ((HEx.out wx (bel_tr HBT.out hx)).1) (HSx.out wx (bel_tr HBT.out hx)) (HLB.out wx (bel_tr HBT.out hx)) (c' := tc) (t' := tt) (i' := ti) (cl' := cl) (cn' := cn) (cc' := cc) (l' := l) (n' := n) (cap' := cap) HTK.out.body hel.2.2.1 (by have h2 := hel.2.1; dsimp only at h2; omega)
                dsimp only at h
                rw [isTop_pos (T := ⟨tk, ti, tc, tt, tb, [], .nil⟩) hk2 ht0] at h
                exact h)
              unfold vE at HIE
              have hhit := isL_hit (T := ⟨tk, ti, tc, tt, tb, [], .nil⟩) (r2 := r2) (dn := dn2) (ks := ks) (i2 := i2) (c2 := c2) (t2 := t2) (b2 := b2) (cs2 := cs2) hil hk2
              have hmiss := isL_miss (T := ⟨tk, ti, tc, tt, tb, [], .nil⟩) (dn := dn2) (ks := ks) (i2 := i2) (c2 := c2) (t2 := t2) (b2 := b2) (cs2 := cs2) hil hk2
              have hN := is1_nrm ⟨tk, ti, tc, tt, tb, [], .nil⟩ k2 i2 c2 t2 b2 cs2 ks
              generalize is1 ⟨tk, ti, tc, tt, tb, [], .nil⟩ k2 i2 c2 t2 b2 cs2 ks = r at *
              rw [← hk] at hhit
              have HH := Lib.hid (And.intro hhit hmiss)
              have HKK := Lib.hid hk
              generalize hjj : dn2.len = j at *
              have HJJ := Lib.hid hjj
              have HQT2 := HQT.out
              have x0 := HQT2.cell 0 rfl
              have x1 := HQT2.cell 1 rfl
              have x2 := HQT2.cell 2 rfl
              have x3 := HQT2.cell 3 rfl
              have x4 := HQT2.cell 4 rfl
              have x5 := HQT2.cell 5 rfl
              have x6 := HQT2.cell 6 rfl
              have x7 := HQT2.cell 7 rfl
              have x8 := HQT2.cell 8 rfl
              have x9 := HQT2.cell 9 rfl
              have x10 := HQT2.cell 10 rfl
              have HKE := Lib.hid (show ∀ wx, Below w10.heap.size w10 wx → ((wx.cell? ⟨bb, off + j * 11, none⟩ = some (.int .i64 k2) ∧ wx.cell? ⟨bb, off + j * 11 + 1, none⟩ = some (.int .i64 i2) ∧ wx.cell? ⟨bb, off + j * 11 + 2, none⟩ = some (.int .i64 c2) ∧ wx.cell? ⟨bb, off + j * 11 + 3, none⟩ = some (.string ⟨t2.toArray⟩) ∧ wx.cell? ⟨bb, off + j * 11 + 4, none⟩ = some (.int .i64 b2.k) ∧ wx.cell? ⟨bb, off + j * 11 + 5, none⟩ = some (.int .i64 b2.i) ∧ wx.cell? ⟨bb, off + j * 11 + 6, none⟩ = some (.int .u64 b2.b) ∧ wx.cell? ⟨bb, off + j * 11 + 7, none⟩ = some (.string ⟨b2.t.toArray⟩) ∧ wx.cell? ⟨bb, off + j * 11 + 8, none⟩ = some (.slice bl2 bn2 bc2) ∧ wx.cell? ⟨bb, off + j * 11 + 9, none⟩ = some (.slice cl2 cn2 cc2) ∧ wx.cell? ⟨bb, off + j * 11 + 10, none⟩ = some (.slice a2 n2 cp2)) ∧ (wx.cell? ⟨q, 0, none⟩ = some (.int .i64 tk) ∧ wx.cell? ⟨q, 1, none⟩ = some (.int .i64 ti) ∧ wx.cell? ⟨q, 2, none⟩ = some (.int .i64 tc) ∧ wx.cell? ⟨q, 3, none⟩ = some (.string ⟨tt.toArray⟩) ∧ wx.cell? ⟨q, 4, none⟩ = some (.int .i64 tb.k) ∧ wx.cell? ⟨q, 5, none⟩ = some (.int .i64 tb.i) ∧ wx.cell? ⟨q, 6, none⟩ = some (.int .u64 tb.b) ∧ wx.cell? ⟨q, 7, none⟩ = some (.string ⟨tb.t.toArray⟩) ∧ wx.cell? ⟨q, 8, none⟩ = some (.slice bl bn bc) ∧ wx.cell? ⟨q, 9, none⟩ = some (.slice cl cn cc) ∧ wx.cell? ⟨q, 10, none⟩ = some (.slice l n cap))) from fun wx hx => ⟨⟨cellAt hx e0, cellAt hx e1, cellAt hx e2, cellAt hx e3, cellAt hx e4, cellAt hx e5, cellAt hx e6, cellAt hx e7, cellAt hx e8, cellAt hx e9, cellAt hx e10⟩, ⟨cellAt hx x0, cellAt hx x1, cellAt hx x2, cellAt hx x3, cellAt hx x4, cellAt hx x5, cellAt hx x6, cellAt hx x7, cellAt hx x8, cellAt hx x9, cellAt hx x10⟩⟩)
              clear hk hlen hil hBr2 hkF hFr he hlr hel hjj hhit hmiss HQT2
              rcases hN with rfl | rfl | rfl
              all_goals
                go_upto_region 25 with (fail)
                go_region_held3 (fun wx : World => (wx.cell? ⟨bb, off + j * 11, none⟩ = some (.int .i64 k2) ∧ wx.cell? ⟨bb, off + j * 11 + 1, none⟩ = some (.int .i64 i2) ∧ wx.cell? ⟨bb, off + j * 11 + 2, none⟩ = some (.int .i64 c2) ∧ wx.cell? ⟨bb, off + j * 11 + 3, none⟩ = some (.string ⟨t2.toArray⟩) ∧ wx.cell? ⟨bb, off + j * 11 + 4, none⟩ = some (.int .i64 b2.k) ∧ wx.cell? ⟨bb, off + j * 11 + 5, none⟩ = some (.int .i64 b2.i) ∧ wx.cell? ⟨bb, off + j * 11 + 6, none⟩ = some (.int .u64 b2.b) ∧ wx.cell? ⟨bb, off + j * 11 + 7, none⟩ = some (.string ⟨b2.t.toArray⟩) ∧ wx.cell? ⟨bb, off + j * 11 + 8, none⟩ = some (.slice bl2 bn2 bc2) ∧ wx.cell? ⟨bb, off + j * 11 + 9, none⟩ = some (.slice cl2 cn2 cc2) ∧ wx.cell? ⟨bb, off + j * 11 + 10, none⟩ = some (.slice a2 n2 cp2)) ∧ (wx.cell? ⟨q, 0, none⟩ = some (.int .i64 tk) ∧ wx.cell? ⟨q, 1, none⟩ = some (.int .i64 ti) ∧ wx.cell? ⟨q, 2, none⟩ = some (.int .i64 tc) ∧ wx.cell? ⟨q, 3, none⟩ = some (.string ⟨tt.toArray⟩) ∧ wx.cell? ⟨q, 4, none⟩ = some (.int .i64 tb.k) ∧ wx.cell? ⟨q, 5, none⟩ = some (.int .i64 tb.i) ∧ wx.cell? ⟨q, 6, none⟩ = some (.int .u64 tb.b) ∧ wx.cell? ⟨q, 7, none⟩ = some (.string ⟨tb.t.toArray⟩) ∧ wx.cell? ⟨q, 8, none⟩ = some (.slice bl bn bc) ∧ wx.cell? ⟨q, 9, none⟩ = some (.slice cl cn cc) ∧ wx.cell? ⟨q, 10, none⟩ = some (.slice l n cap)))
                  (first | exact HKE.out _ (Below.refl _ _) | exact HKE.out _ (bel_dr (Below.refl _ _)) | exact HKE.out _ HBEc.out)
                  (first
                    | (go_simp; go_at_call 16; (with_reducible refine (HIE.out _ (bel_dr (Below.refl _ _))).mono ?_); rintro r11 w11 ⟨rfl, hB⟩; have HBEc := Lib.hid (bel_tr (bel_dr (Below.refl w10.heap.size w10)) hB); clear hB))
              all_goals
                have HBE := Lib.hid (bel_tr HBT.out HBEc.out)
                have HBE5 := Lib.hid (bel_tr HBTc.out HBEc.out)
                have HQE := Lib.hid (HQT.out.below HBEc.out)
                have HZE := Lib.hid (HZT.out.below HBEc.out)
                clear e0 e1 e2 e3 e4 e5 e6 e7 e8 e9 e10 x0 x1 x2 x3 x4 x5 x6 x7 x8 x9 x10
              · rw [HH.out.1 rfl] at HIJ
                have y0 := HZE.out.cell 0 rfl
                have x0 := HQE.out.cell 0 rfl
                have y1 := HZE.out.cell 1 rfl
                have x1 := HQE.out.cell 1 rfl
                have y2 := HZE.out.cell 2 rfl
                have x2 := HQE.out.cell 2 rfl
                have y3 := HZE.out.cell 3 rfl
                have x3 := HQE.out.cell 3 rfl
                have y4 := HZE.out.cell 4 rfl
                have x4 := HQE.out.cell 4 rfl
                have y5 := HZE.out.cell 5 rfl
                have x5 := HQE.out.cell 5 rfl
                have y6 := HZE.out.cell 6 rfl
                have x6 := HQE.out.cell 6 rfl
                have y7 := HZE.out.cell 7 rfl
                have x7 := HQE.out.cell 7 rfl
                have y8 := HZE.out.cell 8 rfl
                have x8 := HQE.out.cell 8 rfl
                have y9 := HZE.out.cell 9 rfl
                have x9 := HQE.out.cell 9 rfl
                have y10 := HZE.out.cell 10 rfl
                have x10 := HQE.out.cell 10 rfl
                go_wp2_with (first
                  | (go_at_call 16; (with_reducible refine (HIJ.out _ HBE5.out).mono ?_); rintro r20 w20 ⟨rfl, hB⟩; have HB20 := Lib.hid (bel_tr HBE.out hB); clear hB)
                  | (go_at_call 11; (with_reducible refine (HW.out _).mono ?_); rintro r21 w21 ⟨rfl, hB⟩; have HB21 := Lib.hid (bel_tr HB20.out hB); clear hB))
                go_ret
                exact ⟨rfl, HB21.out⟩
              · go_wp2_with fail
                go_roundw
                case rel =>
                  exact ⟨dn2.app (.cons k2 i2 c2 t2 b2 cs2 ks .nil), r2, by rw [Eo.len_app, HJJ.out]; simp [Eo.len], rfl, rfl, by rw [Eo.app_assoc]; exact HKK.out, HH.out.2 (by trivial), bel_tr HB810.out HBEc.out⟩
                case measure => simp [intOf]; omega
              · rw [HH.out.1 rfl] at HIJ
                have y0 := HZE.out.cell 0 rfl
                have x0 := HQE.out.cell 0 rfl
                have y1 := HZE.out.cell 1 rfl
                have x1 := HQE.out.cell 1 rfl
                have y2 := HZE.out.cell 2 rfl
                have x2 := HQE.out.cell 2 rfl
                have y3 := HZE.out.cell 3 rfl
                have x3 := HQE.out.cell 3 rfl
                have y4 := HZE.out.cell 4 rfl
                have x4 := HQE.out.cell 4 rfl
                have y5 := HZE.out.cell 5 rfl
                have x5 := HQE.out.cell 5 rfl
                have y6 := HZE.out.cell 6 rfl
                have x6 := HQE.out.cell 6 rfl
                have y7 := HZE.out.cell 7 rfl
                have x7 := HQE.out.cell 7 rfl
                have y8 := HZE.out.cell 8 rfl
                have x8 := HQE.out.cell 8 rfl
                have y9 := HZE.out.cell 9 rfl
                have x9 := HQE.out.cell 9 rfl
                have y10 := HZE.out.cell 10 rfl
                have x10 := HQE.out.cell 10 rfl
                go_wp2_with (first
                  | (go_at_call 16; (with_reducible refine (HIJ.out _ HBE5.out).mono ?_); rintro r20 w20 ⟨rfl, hB⟩; have HB20 := Lib.hid (bel_tr HBE.out hB); clear hB)
                  | (go_at_call 11; (with_reducible refine (HW.out _).mono ?_); rintro r21 w21 ⟨rfl, hB⟩; have HB21 := Lib.hid (bel_tr HB20.out hB); clear hB))
                go_ret
                exact ⟨rfl, HB21.out⟩
    | cons k2 i2 c2 t2 b2 cs2 ks r2 =>
      have hlr : (Eo.cons k2 i2 c2 t2 b2 cs2 ks r2).len = r2.len + 1 := rfl
      have hFr := HFx.out w2 HBr.out
      rw [hk] at hFr
      obtain ⟨bb, off, bl2, bn2, bc2, cl2, cn2, cc2, a2, n2, cp2, rfl, hkF, he, _, hjn⟩ := hFr.elem
      have e0 := he 0 (by omega)
      have e1 := he 1 (by omega)
      have e2 := he 2 (by omega)
      have e3 := he 3 (by omega)
      have e4 := he 4 (by omega)
      have e5 := he 5 (by omega)
      have e6 := he 6 (by omega)
      have e7 := he 7 (by omega)
      have e8 := he 8 (by omega)
      have e9 := he 9 (by omega)
      have e10 := he 10 (by omega)
      simp only [V11, List.getElem?_cons_zero, List.getElem?_cons_succ, Nat.add_zero] at e0 e1 e2 e3 e4 e5 e6 e7 e8 e9 e10
      have hj : (dn.len : Int) < (nL : Int) := by omega
      have hsm : cs2.length ≤ 140737488355328 ∧ ks.small ∧ r2.small := (show Eo.small (.cons k2 i2 c2 t2 b2 cs2 ks r2) from Eo.small_app dn (hk ▸ HLs.out))
      have hkx : ∀ wx, Below w2.heap.size w2 wx → ErAt S wx ⟨k2, i2, c2, t2, b2, cs2, ks⟩ bl2 bn2 bc2 cl2 cn2 cc2 a2 n2 cp2 := fun wx hx => hkF.same (fun x _ hlt => hx.block x hlt) (fun x hx _ => hx)
      have HV := Lib.hid (fun (wx : World) (hx : Below w2.heap.size w2 wx) => show Calls Tryz.prog 10 #[vE k2 i2 c2 t2 b2 bl2 bn2 bc2 cl2 cn2 cc2 a2 n2 cp2] wx (fun r w' => r = .returned (.bool (ervalidM ⟨k2, i2, c2, t2, b2, cs2, ks⟩)) ∧ Below wx.heap.size wx w') from ervalidN (hkx wx hx) (HSx.out wx (bel_tr HBr.out hx)) hsm.1 hsm.2.1)
      have HWK := Lib.hid (fun (hok : okE ⟨k2, i2, c2, t2, b2, cs2, ks⟩) (wx : World) (hx : Below w2.heap.size w2 wx) => rwaysG ks k2 i2 c2 t2 b2 cs2 bl2 bn2 bc2 cl2 cn2 cc2 a2 n2 cp2 S wx (hkx wx hx) (HSx.out wx (bel_tr HBr.out hx)) (by have := hok.1; dsimp only at this; omega) (by have := hok.2.1; dsimp only at this; omega))
      have hvo := (ervalid_ok ⟨k2, i2, c2, t2, b2, cs2, ks⟩).1
      unfold vE at HV HWK
      have HKK := Lib.hid hk
      have HAD := Lib.hid (And.intro hall hno)
      have HJ := Lib.hid hjn
      have hwlen := ways1_len k2 ks
      generalize hjj : dn.len = j at *
      generalize hnn : nOf dn = m at *
      have HJJ := Lib.hid (And.intro hjj hnn)
      clear hkF hFr hk hlen he hlr hsm hkx hall hBr hjj hnn
      generalize ervalidM ⟨k2, i2, c2, t2, b2, cs2, ks⟩ = v at *
      cases v
      · clear hvo HWK
        go_wp2_with (first
          | (go_at_call 10; (with_reducible refine (HV.out _ (Below.refl _ _)).mono ?_); rintro r3 w3 ⟨rfl, hB⟩; have HB3 := Lib.hid (bel_tr HBr.out hB); clear hB)
          | (go_at_call 11; (with_reducible refine (HW.out _).mono ?_); rintro r4 w4 ⟨rfl, hB⟩; have HB4 := Lib.hid (bel_tr HB3.out hB); clear hB))
        go_ret
        exact ⟨rfl, HB4.out⟩
      · have hok := hvo rfl
        have HOK := Lib.hid hok
        have hez : (ways1 k2 ks).length ≤ 4096 := by have := hok.1; dsimp only at this; omega
        have HWK2 := Lib.hid (HWK.out hok)
        obtain ⟨m2, hm2⟩ : ∃ x, x = (ways1 k2 ks).length := ⟨_, rfl⟩
        rw [← hm2] at hez
        have HM2 := Lib.hid hm2
        clear hok hvo HWK hwlen hm2
        go_upto_region 8 with (first
          | (go_at_call 10; (with_reducible refine (HV.out _ (Below.refl _ _)).mono ?_); rintro r3 w3 ⟨rfl, hB⟩; have HB3 := Lib.hid (bel_tr HBr.out hB); have HB23 := Lib.hid hB; replace e0 := cellAt hB e0; replace e1 := cellAt hB e1; replace e2 := cellAt hB e2; replace e3 := cellAt hB e3; replace e4 := cellAt hB e4; replace e5 := cellAt hB e5; replace e6 := cellAt hB e6; replace e7 := cellAt hB e7; replace e8 := cellAt hB e8; replace e9 := cellAt hB e9; replace e10 := cellAt hB e10; clear hB)
          | (go_at_call 21; (with_reducible refine (HWK2.out _ HB23.out).mono ?_); intro r4 w4 h4; obtain ⟨a4, n4, c4, vs4, rfl, hn4, hR4, hW4, hB4⟩ := h4; have HB4 := Lib.hid (bel_tr HB3.out hB4); have HB24 := Lib.hid (bel_tr HB23.out hB4); rw [← HM2.out] at hn4; subst hn4; clear hR4 hW4 hB4))
        by_cases hgt : (16384 : Int) < (m : Int) + n4 + 1
        · go_wp2_with (go_at_call 11; (with_reducible refine (HW.out _).mono ?_); rintro r5 w5 ⟨rfl, hB⟩; have HB5 := Lib.hid (bel_tr HB4.out hB); clear hB)
          go_ret
          exact ⟨rfl, HB5.out⟩
        · have hjn := HJ.out
          go_wp2_with fail
          go_roundw
          case rel =>
            have hj1 := HJJ.out
            have hm1 := HM2.out
            have hno1 : nOf (dn.app (.cons k2 i2 c2 t2 b2 cs2 ks .nil)) = m + n4 + 1 := by
              rw [nOf_app, hj1.2]; simp only [nOf]; omega
            refine ⟨dn.app (.cons k2 i2 c2 t2 b2 cs2 ks .nil), r2, ?_, ?_, by rw [Eo.app_assoc]; exact HKK.out, allOK_app _ HAD.out.1 ⟨HOK.out, trivial⟩, by omega, HB1r.out.trans (HB24.out.mono HB1r.out.size)⟩
            · rw [Eo.len_app, hj1.1]; simp [Eo.len]
            · rw [hno1]; simp
          case measure => simp [intOf]; omega
end Go.Proofs.YtbldidiibkcelaaGreatDoor
