import Derived.Test.YtigfgdefgnahpaaDoorTold
namespace Go.Proofs.YtigfgdefgnahpaaDoor
open Go.RowKit

set_option maxRecDepth 100000 in
set_option maxHeartbeats 20000000 in
theorem toldE {gb fs tb : Nat} {lim : Value} {sp cp : List Value} {wr rd : Bool} {bk : Int} {s : Sc} {t : Tank} {n way : Nat} {e : Int} {ts : List Tank} {cs : List Int} {w : World} {r : Own}
    (hG : GearAt w r gb (ptr fs) (ptr tb) lim sp cp) (hS : SrcAt w r fs wr s) (hT : TankAt w r 40 tb t rd bk) (hE : ETat w r) (hSD : SidesAt w r sp ts ∧ CountsAt w cp cs) (hlen : sp.length ≤ 100 ∧ cp.length ≤ 100) (hbnd : Bnd w r) :
    Calls Tryd.prog 33 #[.pointer (some ⟨gb, 0, none⟩), .int .i64 n, .iface 33 (.int .i64 e), .int .i64 way] w (ToldP n e way t s ts cs w) := by
  obtain ⟨hs1, hs2⟩ := hSD
  obtain ⟨a1, n1, c1, a2, n2, c2, hgb, hB, hR1, hR2⟩ := hG
  obtain ⟨dv, sa, sn, sc, wv, la, ln, lc, hfs, hSB, hZ, hL⟩ := hS
  obtain ⟨sa', sn', sc', ha, hn, hc, htb, hTB, hSZ, hHS, hne⟩ := hT
  obtain ⟨wq, hwq⟩ : ∃ wq, w.alloc (.cells #[.int .i64 0, .int .i64 0, .int .i64 0, .string ⟨#[]⟩, .slice none 0 0, .slice none 0 0, .int .i64 0, .int .i64 0, .int .i64 0] 37) = wq := ⟨_, rfl⟩
  have hq0 : Step (fun _ => False) w r wq r := by rw [← hwq]; exact (Step.refl _ hbnd).alloc _
  have hBq := hB.step hq0 hgb id
  have hSq := hSB.step hq0 hfs id
  have hTq := hTB.step hq0 htb id
  unfold ptr at hBq
  have g0 := hBq.cell 0 rfl
  have g1 := hBq.cell 1 rfl
  have s6 := hSq.cell 6 rfl
  have s7 := hSq.cell 7 rfl
  have t5 := hTq.cell 5 rfl
  have t6 := hTq.cell 6 rfl
  have hrow := (hHS.step hq0 id).1.rd
  have HROW := Lib.hid hrow
  obtain ⟨sv, hsv⟩ : ∃ sv : ByteArray, ⟨t.has.toArray⟩ = sv := ⟨_, rfl⟩
  have HSV := Lib.hid hsv
  have hcvA : ∀ wx, Rd wx 1 ha hn hc (B8 t.has) → (convert 78 9 (.slice ha hn hc)).run Tryd.prog wx = .ok (.string sv) wx := fun wx hx => by rw [← hsv]; exact conv_row hx
  clear hsv hrow
  have hkeep : ∀ wx, Below wq.heap.size wq wx → wx.cell? ⟨gb, 0, none⟩ = some (.pointer (some ⟨fs, 0, none⟩)) ∧ wx.cell? ⟨gb, 1, none⟩ = some (.pointer (some ⟨tb, 0, none⟩)) ∧ wx.cell? ⟨fs, 6, none⟩ = some (.slice la ln lc) ∧ wx.cell? ⟨fs, 7, none⟩ = some (.int .i64 s.k) ∧ wx.cell? ⟨tb, 5, none⟩ = some (.slice ha hn hc) ∧ wx.cell? ⟨tb, 6, none⟩ = some (.int .i64 t.k) ∧ Rd wx 1 ha hn hc (B8 t.has) := fun wx hx => ⟨cellAt hx g0, cellAt hx g1, cellAt hx s6, cellAt hx s7, cellAt hx t5, cellAt hx t6, HROW.out.below hx⟩
  have HKeP := Lib.hid hkeep
  have hetc : ∀ wx, Below wq.heap.size wq wx → wx.cell? ⟨1, 0, none⟩ = some (.iface 157 (.agg #[.pointer (some ⟨2, 68, none⟩)])) := fun wx hx => cellAt hx (hE.step hq0).2.2
  have ETC := Lib.hid hetc
  clear hetc hE
  have hbqw : Below w.heap.size w wq := by rw [← hwq]; exact (Below.refl _ _).alloc (Nat.le_refl _) _
  have hbq8 : Blk wq w.heap.size [.int .i64 0, .int .i64 0, .int .i64 0, .string ⟨#[]⟩, .slice none 0 0, .slice none 0 0, .int .i64 0, .int .i64 0, .int .i64 0] := by rw [← hwq]; exact Blk.new _ _ _
  have hrs := (hR1.step hq0 id).1.rd
  have hrc := (hR2.step hq0 id).1.rd
  have hn1 : sp.length = n1 := by have := hrs.len; omega
  have hn2 : cp.length = n2 := by have := hrc.len; omega
  have hlf : s.left = ln := by have := hL.1.len; rw [B8_length, List.length_drop] at this; unfold Sc.left; omega
  have hwqs : wq.heap.size = w.heap.size + 1 := by rw [← hwq, sz_alloc]
  have HBQ := Lib.hid hBq
  have HBQW := Lib.hid hbqw
  have HBQ8 := Lib.hid hbq8
  have HRS := Lib.hid hrs
  have HRC := Lib.hid hrc
  have HLF := Lib.hid hlf
  have HWQS := Lib.hid hwqs
  have HS1 := Lib.hid hs1
  have HS2 := Lib.hid hs2
  have hm1 := hrs.max
  have hm2 := hrc.max
  have hc1 := hrs.le
  have hc2 := hrc.le
  unfold maxLen at hm1 hm2
  obtain ⟨hlen1, hlen2⟩ := hlen
  obtain ⟨i9, hz0, hz1, hz2, hz3⟩ := strInfo
  obtain ⟨i2, hx0, hx1, hx2, hx3⟩ := i64Info
  have und34 := Tryd.underlying34
  have und35 := Tryd.underlying35
  clear hB hR1 hR2 hSB hZ hL hTB hSZ hHS hne hq0 hBq hSq hTq hbqw hbq8 hrs hrc hlf hwqs hs1 hs2 hbnd
  clear hkeep g0 g1 s6 s7 t5 t6
  go_enter Tryd.func33, Tryd.ntmps33
  go_upto_region 1 with (fail)
  go_cut [9] from 14 (fun s9 wx => ∃ b9, s9 = .pointer (some ⟨b9, 0, none⟩) ∧ wq.heap.size ≤ b9 ∧ Below wq.heap.size wq wx ∧ Blk wx b9 [.int .i64 n, .int .i64 e, .int .i64 way, .string sv, .slice none 0 0, .slice none 0 0, .int .i64 s.k, .int .i64 t.k, .int .i64 ln])
  case first =>
    go_region_held3 (fun wx : World => wx.cell? ⟨gb, 0, none⟩ = some (.pointer (some ⟨fs, 0, none⟩)) ∧ wx.cell? ⟨gb, 1, none⟩ = some (.pointer (some ⟨tb, 0, none⟩)) ∧ wx.cell? ⟨fs, 6, none⟩ = some (.slice la ln lc) ∧ wx.cell? ⟨fs, 7, none⟩ = some (.int .i64 s.k) ∧ wx.cell? ⟨tb, 5, none⟩ = some (.slice ha hn hc) ∧ wx.cell? ⟨tb, 6, none⟩ = some (.int .i64 t.k) ∧ Rd wx 1 ha hn hc (B8 t.has))
      (first | (refine HKeP.out _ ?_; repeat (first | exact Below.refl _ _ | refine Below.drew ?_ | refine Below.alloc ?_ (by first | (simp; done) | (simp; omega)) _)))
      (first
        | (go_simp; go_at_call 42; refine (numberEx e _ (ETC.out _ (by repeat (first | exact Below.refl _ _ | refine Below.drew ?_ | refine Below.alloc ?_ (by first | (simp; done) | (simp; omega)) _)))).mono ?_; rintro e2 w2 ⟨rfl, rfl⟩; unfold numW))
    all_goals
      go_wp2_with fail
      go_meet
      case rel =>
        first
          | exact finA (j := 5) (cs := [.int .i64 n, .int .i64 e, .int .i64 way, .string sv, .slice none 0 0, .slice none 0 0, .int .i64 s.k, .int .i64 t.k, .int .i64 ln]) (by repeat (first | exact Below.refl _ _ | refine Below.drew ?_ | refine Below.alloc ?_ (by first | (simp; done) | (simp; omega)) _)) (by rw [sz_alloc, sz_alloc, sz_alloc, sz_alloc, sz_alloc])
          | exact finB (cs := [.int .i64 n, .int .i64 e, .int .i64 way, .string sv, .slice none 0 0, .slice none 0 0, .int .i64 s.k, .int .i64 t.k, .int .i64 ln]) (by repeat (first | exact Below.refl _ _ | refine Below.drew ?_ | refine Below.alloc ?_ (by first | (simp; done) | (simp; omega)) _))
  case rest =>
  obtain ⟨b9, rfl, hb9, hbw, hB9⟩ := hcut
  rename World => w6
  have e2 := cellAt hbw (HBQ.out.cell 2 rfl)
  have HBW := Lib.hid hbw
  have HB9 := Lib.hid hB9
  have HB9L := Lib.hid hb9
  clear hbw hB9 hcvA
  go_wp2_with fail
  clear e2
  go_loopw [54] (fun ix wr => ∃ k a4 c4, k ≤ n1 ∧ ix = .int .i64 ((k : Nat) : Int) ∧ Below wq.heap.size wq wr ∧ Blk wr b9 [.int .i64 n, .int .i64 e, .int .i64 way, .string sv, .slice a4 k c4, .slice none 0 0, .int .i64 s.k, .int .i64 t.k, .int .i64 ln] ∧ Row wq.heap.size wr 1 a4 k c4 ((ts.take k).map hasS) ∧ (∀ x, blockOf a4 = some x → x ≠ b9)) (fun ix _ => n1 - (intOf ix).toNat)
  case atStart => exact ⟨0, none, 0, Nat.zero_le _, rfl, HBW.out, HB9.out, Row.nil _ _ _, fun x hx => by cases hx⟩
  case round =>
    obtain ⟨k, a4, c4, hk, rfl, hbx, hBx, hRx, hne4⟩ := hrel
    have HBX := Lib.hid hbx
    have HBK := Lib.hid hBx
    have HRX := Lib.hid hRx
    have HN4 := Lib.hid hne4
    clear hbx hBx hRx hne4
    by_cases hlt : k < n1
    · obtain ⟨bp, kk, tk, rdk, bkk, hp1, hp2, hTk⟩ := HS1.out.2 k (by omega)
      obtain ⟨sak, snk, sck, hak, hnk, hck, hrk, hBk, hSk, hHk, hnek⟩ := hTk
      have hbwr : Below w.heap.size w wr := HBQW.out.trans (HBX.out.mono HBQW.out.size)
      obtain ⟨b1, off1, ha1, hb1, hcp⟩ := (HRS.out.below HBX.out).at1 hlt
      rw [hp1] at hcp
      unfold ptr at hcp
      subst ha1
      have t5' := (hBk.below hbwr).cell 5 rfl
      obtain ⟨svk, hsvk⟩ : ∃ svk : ByteArray, ⟨tk.has.toArray⟩ = svk := ⟨_, rfl⟩
      have hcvk : (convert 78 9 (.slice hak hnk hck)).run Tryd.prog wr.drew = .ok (.string svk) wr.drew := by rw [← hsvk]; exact conv_row ((hHk.1.rd.below hbwr).drew)
      have c49 := HBK.out.cell 4 rfl
      have hb9l := HBK.out.lt
      have f49 := HBK.out.free 4 (by simp)
      have hki : (k : Int) < n1 := by omega
      have HTK := Lib.hid (show (ts.take (k + 1)).map hasS = (ts.take k).map hasS ++ [.string svk] by rw [List.take_add_one, hp2, List.map_append, ← hsvk]; rfl)
      clear hBk hSk hHk hnek hbwr hsvk hp1 hp2 hb1
      go_wp2_with fail
      have HSRC := Lib.hid (show Src Tryd.prog 1 34 (.slice (some ⟨wr.heap.size, 0, none⟩) 1 1) 1 [.string svk] (wr.alloc (.cells #[.string svk] 9)).drew from (show Src Tryd.prog 1 34 (.slice (some ⟨wr.heap.size, 0, none⟩) 1 1) 1 [.string svk] (wr.drew.alloc (.cells #[.string svk] 9)) from Src.oneAt (w := wr.drew) (g := wr.heap.size) und34 (.string svk) 9 rfl rfl))
      have HROWD := Lib.hid ((HRX.out.alloc (.cells #[.string svk] 9)).drew)
      have hA1 : k + 1 ≤ maxLen := by unfold maxLen; omega
      have hA2 : (k + 1) * 16 ≤ 140737488355328 := by omega
      have hA3 : wq.heap.size ≤ (wr.alloc (.cells #[.string svk] 9)).drew.heap.size := by have := HBX.out.size; show wq.heap.size ≤ (wr.alloc (.cells #[.string svk] 9)).heap.size; rw [sz_alloc]; omega
      go_region_law (first | (refine step_append_row rfl _ _ 34 34 rfl 9 i9 (.string ⟨#[]⟩) 1 16 und34 hz0 hz1 hz2 hz3 rfl rfl HROWD.out 1 [.string svk] HSRC.out hA1 hA2 hA3 ?_; intro a' c' w4 hrow hgr hbk; have HW4 := Lib.hid hrow; have HG4 := Lib.hid hgr; have HK4 := Lib.hid hbk; clear hrow hgr hbk; have BB4 := Lib.hid (((HBK.out.alloc (.cells #[.string svk] 9)).drew).grown HG4.out (fun e => HN4.out _ e rfl)); have c4' := BB4.out.cell 4 rfl; have f4' := BB4.out.free 4 (by simp)))
      all_goals
        go_wp2
        go_roundw
        case rel =>
          have hne' : ∀ x, blockOf a' = some x → x ≠ b9 := fun x hx e => by
            rcases HK4.out with h | h
            · exact HN4.out x (by rw [← h]; exact hx) e
            · rw [h] at hx
              cases hx
              have h1 := HBK.out.lt
              have h2 : (wr.alloc (.cells #[.string svk] 9)).drew.heap.size = wr.heap.size + 1 := sz_alloc _ _
              omega
          have hsz := HBX.out.size
          refine ⟨k + 1, a', c', by omega, by go_num, ?_, BB4.out.set (j := 4) _, ?_, hne'⟩
          · exact (((HBX.out.alloc hsz _).drew).grown HG4.out hA3 (fun x hx => (HRX.out.lt x hx).1)).setCell HB9L.out _
          · rw [HTK.out]
            exact HW4.out.kept (grownBy_setAt _ _ _) (.inl (fun e => hne' b9 e rfl))
        case measure => simp [intOf]; omega
    · obtain rfl : k = n1 := by omega
      have htk : (ts.take k).map hasS = ts.map hasS := by rw [List.take_of_length_le (by have := HS1.out.1; omega)]
      have HTS := Lib.hid htk
      have e3 := cellAt HBX.out (HBQ.out.cell 3 rfl)
      clear htk
      rename World => w7
      go_wp2_with fail
      clear e3
      go_loopw [74] (fun ix wr => ∃ j a5 c5, j ≤ n2 ∧ ix = .int .i64 ((j : Nat) : Int) ∧ Below wq.heap.size wq wr ∧ Blk wr b9 [.int .i64 n, .int .i64 e, .int .i64 way, .string sv, .slice a4 k c4, .slice a5 j c5, .int .i64 s.k, .int .i64 t.k, .int .i64 ln] ∧ Row wq.heap.size wr 1 a4 k c4 ((ts.take k).map hasS) ∧ Row wq.heap.size wr 1 a5 j c5 (I3 (cs.take j)) ∧ (∀ x, blockOf a5 = some x → x ≠ b9 ∧ blockOf a4 ≠ some x)) (fun ix _ => n2 - (intOf ix).toNat)
      case atStart => exact ⟨0, none, 0, Nat.zero_le _, rfl, HBX.out, HBK.out, HRX.out, Row.nil _ _ _, fun x hx => by cases hx⟩
      case round =>
        obtain ⟨j, a5, c5, hj, rfl, hbx, hBx, hR4, hRx, hne5⟩ := hrel
        have HBY := Lib.hid hbx
        have HBL := Lib.hid hBx
        have HRY := Lib.hid hRx
        have HRZ := Lib.hid hR4
        have HN5 := Lib.hid hne5
        clear hbx hBx hRx hR4 hne5
        by_cases hlt2 : j < n2
        · obtain ⟨bp, cv, hp1, hp2, hcv⟩ := HS2.out.2 j (by omega)
          have hbwr : Below w.heap.size w wr := HBQW.out.trans (HBY.out.mono HBQW.out.size)
          obtain ⟨b1, off1, ha1, hb1, hcp⟩ := (HRC.out.below HBY.out).at1 hlt2
          rw [hp1] at hcp
          unfold ptr at hcp
          subst ha1
          have hcv' := cellAt hbwr hcv
          have c59 := HBL.out.cell 5 rfl
          have hb9l := HBL.out.lt
          have f59 := HBL.out.free 5 (by simp)
          have hji : (j : Int) < n2 := by omega
          have HTK := Lib.hid (show I3 (cs.take (j + 1)) = I3 (cs.take j) ++ [.int .i64 cv] by rw [List.take_add_one, hp2]; simp [I3])
          clear hbwr hp1 hp2 hb1 hcv
          go_wp2_with fail
          have HSRC := Lib.hid (show Src Tryd.prog 1 35 (.slice (some ⟨wr.heap.size, 0, none⟩) 1 1) 1 [.int .i64 cv] (wr.alloc (.cells #[.int .i64 cv] 2)).drew from (show Src Tryd.prog 1 35 (.slice (some ⟨wr.heap.size, 0, none⟩) 1 1) 1 [.int .i64 cv] (wr.drew.alloc (.cells #[.int .i64 cv] 2)) from Src.oneAt (w := wr.drew) (g := wr.heap.size) und35 (.int .i64 cv) 2 rfl rfl))
          have HROWD := Lib.hid ((HRY.out.alloc (.cells #[.int .i64 cv] 2)).drew)
          have hA1 : j + 1 ≤ maxLen := by unfold maxLen; omega
          have hA2 : (j + 1) * 8 ≤ 140737488355328 := by omega
          have hA3 : wq.heap.size ≤ (wr.alloc (.cells #[.int .i64 cv] 2)).drew.heap.size := by have := HBY.out.size; show wq.heap.size ≤ (wr.alloc (.cells #[.int .i64 cv] 2)).heap.size; rw [sz_alloc]; omega
          go_region_law (first | (refine step_append_row rfl _ _ 35 35 rfl 2 i2 (.int .i64 0) 1 8 und35 hx0 hx1 hx2 hx3 rfl rfl HROWD.out 1 [.int .i64 cv] HSRC.out hA1 hA2 hA3 ?_; intro a' c' w4 hrow hgr hbk; have HW4 := Lib.hid hrow; have HG4 := Lib.hid hgr; have HK4 := Lib.hid hbk; clear hrow hgr hbk; have BB4 := Lib.hid (((HBL.out.alloc (.cells #[.int .i64 cv] 2)).drew).grown HG4.out (fun e => (HN5.out _ e).1 rfl)); have c4' := BB4.out.cell 5 rfl; have f4' := BB4.out.free 5 (by simp)))
          all_goals
            go_wp2
            go_roundw
            case rel =>
              have h2 : (wr.alloc (.cells #[.int .i64 cv] 2)).drew.heap.size = wr.heap.size + 1 := sz_alloc _ _
              have hne' : ∀ x, blockOf a' = some x → x ≠ b9 ∧ blockOf a4 ≠ some x := fun x hx => by
                rcases HK4.out with h | h
                · exact HN5.out x (by rw [← h]; exact hx)
                · rw [h] at hx
                  cases hx
                  have h1 := HBL.out.lt
                  refine ⟨by omega, fun e => ?_⟩
                  have := (HRZ.out.lt _ e).2
                  omega
              have hsz := HBY.out.size
              have hn4 : blockOf a4 ≠ some b9 := fun e => HN4.out b9 e rfl
              refine ⟨j + 1, a', c', by omega, by go_num, ?_, BB4.out.set (j := 5) _, ?_, ?_, hne'⟩
              · exact (((HBY.out.alloc hsz _).drew).grown HG4.out hA3 (fun x hx => (HRY.out.lt x hx).1)).setCell HB9L.out _
              · refine (((HRZ.out.alloc _).drew).kept HG4.out ?_).kept (grownBy_setAt _ _ _) (.inl hn4)
                rcases hb5 : blockOf a5 with _ | x
                · exact .inr rfl
                · exact .inl ((HN5.out x hb5).2)
              · rw [HTK.out]
                exact HW4.out.kept (grownBy_setAt _ _ _) (.inl (fun e => (hne' b9 e).1 rfl))
            case measure => simp [intOf]; omega
        · obtain rfl : j = n2 := by omega
          have hcj : I3 (cs.take j) = I3 cs := by rw [List.take_of_length_le (by have := HS2.out.1; omega)]
          have HCJ := Lib.hid hcj
          clear hcj
          rename World => w8
          go_upto_region 12 with (fail)
          have hbwr : Below w.heap.size w w8 := HBQW.out.trans (HBY.out.mono HBQW.out.size)
          have hR8 := HBQ8.out.below HBY.out
          have x0 := HBL.out.cell 0 rfl
          have x1 := HBL.out.cell 1 rfl
          have x2 := HBL.out.cell 2 rfl
          have x3 := HBL.out.cell 3 rfl
          have x4 := HBL.out.cell 4 rfl
          have x5 := HBL.out.cell 5 rfl
          have x6 := HBL.out.cell 6 rfl
          have x7 := HBL.out.cell 7 rfl
          have x8 := HBL.out.cell 8 rfl
          have y0 := hR8.cell 0 rfl
          have y1 := hR8.cell 1 rfl
          have y2 := hR8.cell 2 rfl
          have y3 := hR8.cell 3 rfl
          have y4 := hR8.cell 4 rfl
          have y5 := hR8.cell 5 rfl
          have y6 := hR8.cell 6 rfl
          have y7 := hR8.cell 7 rfl
          have y8 := hR8.cell 8 rfl
          have z0 := hR8.free 0 (by simp)
          have z1 := hR8.free 1 (by simp)
          have z2 := hR8.free 2 (by simp)
          have z3 := hR8.free 3 (by simp)
          have z4 := hR8.free 4 (by simp)
          have z5 := hR8.free 5 (by simp)
          have z6 := hR8.free 6 (by simp)
          have z7 := hR8.free 7 (by simp)
          have z8 := hR8.free 8 (by simp)
          have HR8 := Lib.hid hR8
          have HBWR := Lib.hid hbwr
          clear hR8 hbwr
          go_wp2
          clear x0 x1 x2 x3 x4 x5 x6 x7 x8 y0 y1 y2 y3 y4 y5 y6 y7 y8 z0 z1 z2 z3 z4 z5 z6 z7 z8
          have hF := (((((((((HR8.out.set (j := 0) (.int .i64 (n : Int))).set (j := 1) (.int .i64 e)).set (j := 2) (.int .i64 (way : Int))).set (j := 3) (.string sv)).set (j := 4) (.slice a4 k c4)).set (j := 5) (.slice a5 j c5)).set (j := 6) (.int .i64 (s.k : Int))).set (j := 7) (.int .i64 (t.k : Int))).set (j := 8) (.int .i64 (ln : Int)))
          have hlt9 : w.heap.size < wq.heap.size := by have := HWQS.out; omega
          have hbel : Below w.heap.size w (((((((((w8.setCell ⟨w.heap.size, 0, none⟩ (.int .i64 (n : Int))).setCell ⟨w.heap.size, 1, none⟩ (.int .i64 e)).setCell ⟨w.heap.size, 2, none⟩ (.int .i64 (way : Int))).setCell ⟨w.heap.size, 3, none⟩ (.string sv)).setCell ⟨w.heap.size, 4, none⟩ (.slice a4 k c4)).setCell ⟨w.heap.size, 5, none⟩ (.slice a5 j c5)).setCell ⟨w.heap.size, 6, none⟩ (.int .i64 (s.k : Int))).setCell ⟨w.heap.size, 7, none⟩ (.int .i64 (t.k : Int))).setCell ⟨w.heap.size, 8, none⟩ (.int .i64 (ln : Int))) :=
            ((((((((HBWR.out.setCell (Nat.le_refl _) _).setCell (Nat.le_refl _) _).setCell (Nat.le_refl _) _).setCell (Nat.le_refl _) _).setCell (Nat.le_refl _) _).setCell (Nat.le_refl _) _).setCell (Nat.le_refl _) _).setCell (Nat.le_refl _) _).setCell (Nat.le_refl _) _
          have hra := ((((((((((HRZ.out.put (p := ⟨w.heap.size, 0, none⟩) hlt9 (.int .i64 (n : Int))).put (p := ⟨w.heap.size, 1, none⟩) hlt9 (.int .i64 e)).put (p := ⟨w.heap.size, 2, none⟩) hlt9 (.int .i64 (way : Int))).put (p := ⟨w.heap.size, 3, none⟩) hlt9 (.string sv)).put (p := ⟨w.heap.size, 4, none⟩) hlt9 (.slice a4 k c4)).put (p := ⟨w.heap.size, 5, none⟩) hlt9 (.slice a5 j c5)).put (p := ⟨w.heap.size, 6, none⟩) hlt9 (.int .i64 (s.k : Int))).put (p := ⟨w.heap.size, 7, none⟩) hlt9 (.int .i64 (t.k : Int))).put (p := ⟨w.heap.size, 8, none⟩) hlt9 (.int .i64 (ln : Int)))).rd
          have hrb := ((((((((((HRY.out.put (p := ⟨w.heap.size, 0, none⟩) hlt9 (.int .i64 (n : Int))).put (p := ⟨w.heap.size, 1, none⟩) hlt9 (.int .i64 e)).put (p := ⟨w.heap.size, 2, none⟩) hlt9 (.int .i64 (way : Int))).put (p := ⟨w.heap.size, 3, none⟩) hlt9 (.string sv)).put (p := ⟨w.heap.size, 4, none⟩) hlt9 (.slice a4 k c4)).put (p := ⟨w.heap.size, 5, none⟩) hlt9 (.slice a5 j c5)).put (p := ⟨w.heap.size, 6, none⟩) hlt9 (.int .i64 (s.k : Int))).put (p := ⟨w.heap.size, 7, none⟩) hlt9 (.int .i64 (t.k : Int))).put (p := ⟨w.heap.size, 8, none⟩) hlt9 (.int .i64 (ln : Int)))).rd
          generalize (((((((((w8.setCell ⟨w.heap.size, 0, none⟩ (.int .i64 (n : Int))).setCell ⟨w.heap.size, 1, none⟩ (.int .i64 e)).setCell ⟨w.heap.size, 2, none⟩ (.int .i64 (way : Int))).setCell ⟨w.heap.size, 3, none⟩ (.string sv)).setCell ⟨w.heap.size, 4, none⟩ (.slice a4 k c4)).setCell ⟨w.heap.size, 5, none⟩ (.slice a5 j c5)).setCell ⟨w.heap.size, 6, none⟩ (.int .i64 (s.k : Int))).setCell ⟨w.heap.size, 7, none⟩ (.int .i64 (t.k : Int))).setCell ⟨w.heap.size, 8, none⟩ (.int .i64 (ln : Int))) = w9 at hF hbel hra hrb ⊢
          have d0 := hF.cell 0 rfl
          have d1 := hF.cell 1 rfl
          have d2 := hF.cell 2 rfl
          have d3 := hF.cell 3 rfl
          have d4 := hF.cell 4 rfl
          have d5 := hF.cell 5 rfl
          have d6 := hF.cell 6 rfl
          have d7 := hF.cell 7 rfl
          have d8 := hF.cell 8 rfl
          refine bodyPost_ret (v := .agg #[.int .i64 (n : Int), .int .i64 e, .int .i64 (way : Int), .string sv, .slice a4 k c4, .slice a5 j c5, .int .i64 (s.k : Int), .int .i64 (t.k : Int), .int .i64 (ln : Int)]) (by simp [results, Tryd.f33, go_sem, d0, d1, d2, d3, d4, d5, d6, d7, d8]) rfl ?_
          refine ⟨a4, k, c4, a5, j, c5, ?_, hbel, ?_, ?_, fun x hx => by have := (HRZ.out.lt x hx).1; omega, fun x hx => by have := (HRY.out.lt x hx).1; omega⟩
          · unfold hasS; rw [HSV.out, HLF.out]
          · rw [← HTS.out]; exact hra
          · rw [← HCJ.out]; exact hrb
end Go.Proofs.YtigfgdefgnahpaaDoor
