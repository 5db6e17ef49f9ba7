/-
  value (walk). Not a statement of the seat.
-/
import Derived.Test.YtofpdhkdnbnobaaDoorParseU
namespace Go.Proofs.YtofpdhkdnbnobaaDoor
open Go.RowKit

theorem errc {L : Bs} {p f : Nat} {bad : Bool} {v : Int} {o : Option Int} (hA : (bad = false ∧ o = some v) ∨ (bad = true ∧ o = none)) (hN : ∀ v, o = some v → hasM L p [34] = true → quotedM L f (p + 1) [] ≠ .out)
    (e : bad = false) (h : hasM L p [34] = true) : quotedM L f (p + 1) [] ≠ .out := by
  rcases hA with ⟨_, h1⟩ | ⟨h1, _⟩
  · exact hN v h1 h
  · rw [e] at h1; cases h1
theorem ptrc {L : Bs} {p f d a2 : Nat} {bad bad2 : Bool} {v : Int} {o : Option Int} (h : (bad2 = false ∧ bad = false ∧ hasM L p [40] = true ∧ a2 = p + 1) ∨ (bad2 = true ∧ (bad = true ∨ hasM L p [40] = false)))
    (hA : (bad = false ∧ o = some v) ∨ (bad = true ∧ o = none)) (hN : ∀ v, o = some v → hasM L p [40] = true → rowM L f d (p + 1) [41] .nil ≠ .out) (e : bad2 = false) : rowM L f d a2 [41] .nil ≠ .out := by
  rcases h with ⟨_, h1, h2, rfl⟩ | ⟨h1, _⟩
  · rcases hA with ⟨_, h5⟩ | ⟨h5, _⟩
    · exact hN v h5 h2
    · rw [h1] at h5; cases h5
  · rw [e] at h1; cases h1

theorem run_all (set : Bs) : ∀ (x : Bs), ∀ c ∈ x.take (runM set x), 0 ≤ Go.Lib.indexByte set c
  | [], c, h => by cases h
  | d :: x, c, h => by
    rw [runM] at h
    split at h
    · rename_i hd
      rw [List.take_succ_cons, List.mem_cons] at h
      rcases h with rfl | h
      · exact hd
      · exact run_all set x c h
    · cases h

set_option maxHeartbeats 16000000 in
set_option maxRecDepth 100000 in
theorem valueN {S : ByteArray} {f : Nat} (hS : S.size ≤ 1000000000000) (hROK : ROK S f) : VOK S (f + 1) := by
  intro rb a deep w h ha hd hL hrb7 ho
  generalize hq : valueM S.data.toList (f + 1) deep a = res at *
  have hrb := h.lt
  have hmf : ∀ (fn : Fn) (first cap : Array Value) (w : World), (Instr.makeFunc fn first cap).run Tryd.prog w = .ok (.func fn first cap) w := fun _ _ _ _ => rfl
  rw [valueM] at hq
  have HB := Lib.hid (Bx.new w rb)
  have HR := Lib.hid (show Rdr (bx w rb) rb S a deep false from (Blk.alloc (Blk.alloc h _) _))
  have HL := Lib.hid (show Lb (bx w rb) from hL.keep1 HB.out.kept hrb7)
  clear h hL
  go_enter_defers Tryd.func36, Tryd.ntmps36
  go_upto_region 1 with (fail)
  change Code.wp _ _ _ _ (bx w rb)
  generalize bx w rb = wz at *
  have c2 := HR.out.cell 2 rfl
  have c3 := HR.out.cell 3 rfl
  have f2 := HR.out.free 2 (by simp)
  have f3 := HR.out.free 3 (by simp)
  have cp := HB.out.ptr.cell 0 rfl
  by_cases h16 : deep = 16
  · have hdi : ((deep : Int) == 16) = true := by simp [h16]
    rw [if_pos h16] at hq
    clear h16
    have hob := HB.out.out
    have o0 := hob.cell 0 rfl; have o1 := hob.cell 1 rfl; have o2 := hob.cell 2 rfl; have o3 := hob.cell 3 rfl; have o4 := hob.cell 4 rfl
    have p0 := hob.free 0 (by simp [V5]); have p1 := hob.free 1 (by simp [V5]); have p2 := hob.free 2 (by simp [V5]); have p3 := hob.free 3 (by simp [V5]); have p4 := hob.free 4 (by simp [V5])
    clear hob
    go_wp2_with fail
    obtain ⟨h1, k1⟩ := rdr_bad HR.out
    have hB1 := HB.out.keep k1 hrb
    rw [← hq]
    refine v_early rfl (st5_blk hB1.out _ _ _ _ _) ⟨_, _, _, _, _, _, _, rfl, ⟨a, ?_, ha⟩, ?_⟩
    · exact Blk.keep h1 (st5_kept _ _ _ _ _) (by unfold N1; omega)
    · exact hB1.kept.over (st5_kept _ _ _ _ _) (by omega)
  · rw [if_neg h16] at hq
    have hdi : ((deep : Int) == 16) = false := by simp; omega
    obtain ⟨d, hdd⟩ : ∃ d, d = deep + 1 := ⟨_, rfl⟩
    have hd17 : d ≤ 16 := by omega
    have hdn : (deep : Int) + 1 = (d : Int) := by omega
    have HDD := Lib.hid hdd
    clear h16 hdd
    go_upto_region 6 with (fail)
    have hdd := HDD.out
    have hR0 : Rdr (wz.setCell ⟨rb, 2, none⟩ (.int .i64 (d : Nat))) rb S a d false := by simpa [Rdr] using Blk.set HR.out (j := 2) (.int .i64 (d : Nat))
    have hK0 : Kept (N1 rb) wz (wz.setCell ⟨rb, 2, none⟩ (.int .i64 (d : Nat))) := (Kept.refl _ _).put (p := ⟨rb, 2, none⟩) _ (fun _ => rfl)
    have HR0 := Lib.hid hR0
    have HB0 := Lib.hid (HB.out.keep hK0 hrb)
    have HL0 := Lib.hid (HL.out.keep1 hK0 hrb7)
    generalize wz.setCell ⟨rb, 2, none⟩ (.int .i64 (d : Nat)) = w0 at *
    have cp0 := HB0.out.ptr.cell 0 rfl
    clear hR0 hK0 HR HB HL c2 c3 f2 f3 cp hdi hdn
    cases hk : hasM S.data.toList a [110, 105, 108]
    · have HF := Lib.hid (hasF (t := ⟨#[110, 105, 108]⟩) HR0.out ha hk)
      rw [if_neg (by rw [hk]; simp)] at hq
      go_wp2_with (first
        | (go_at_call 63; (with_reducible refine HF.out.mono ?_); rintro e w1 ⟨rfl, m, hw⟩
           have hKx : Kept (N1 rb) w0 w1 := by rw [hw]; exact (Kept.refl _ _).calm (below_drewN _ _ _)
           have HR1 := Lib.hid (show Rdr w1 rb S a d false by rw [hw]; exact Rdr.drewN HR0.out m)
           have HB1 := Lib.hid (HB0.out.keep hKx hrb)
           have HL1 := Lib.hid (HL0.out.keep1 hKx hrb7)
           have cp1 := HB1.out.ptr.cell 0 rfl
           clear hw hKx))
      clear HF HR0 HB0 HL0 cp0
      cases hk : hasM S.data.toList a [116, 114, 117, 101]
      · have HF := Lib.hid (hasF (t := ⟨#[116, 114, 117, 101]⟩) HR1.out ha hk)
        rw [if_neg (by rw [hk]; simp)] at hq
        go_wp2_with (first
          | (go_at_call 63; (with_reducible refine HF.out.mono ?_); rintro e w2 ⟨rfl, m, hw⟩
             have hKx : Kept (N1 rb) w1 w2 := by rw [hw]; exact (Kept.refl _ _).calm (below_drewN _ _ _)
             have HR2 := Lib.hid (show Rdr w2 rb S a d false by rw [hw]; exact Rdr.drewN HR1.out m)
             have HB2 := Lib.hid (HB1.out.keep hKx hrb)
             have HL2 := Lib.hid (HL1.out.keep1 hKx hrb7)
             have cp2 := HB2.out.ptr.cell 0 rfl
             clear hw hKx))
        clear HF HR1 HB1 HL1 cp1
        cases hk : hasM S.data.toList a [102, 97, 108, 115, 101]
        · have HF := Lib.hid (hasF (t := ⟨#[102, 97, 108, 115, 101]⟩) HR2.out ha hk)
          rw [if_neg (by rw [hk]; simp)] at hq
          go_wp2_with (first
            | (go_at_call 63; (with_reducible refine HF.out.mono ?_); rintro e w3 ⟨rfl, m, hw⟩
               have hKx : Kept (N1 rb) w2 w3 := by rw [hw]; exact (Kept.refl _ _).calm (below_drewN _ _ _)
               have HR3 := Lib.hid (show Rdr w3 rb S a d false by rw [hw]; exact Rdr.drewN HR2.out m)
               have HB3 := Lib.hid (HB2.out.keep hKx hrb)
               have HL3 := Lib.hid (HL2.out.keep1 hKx hrb7)
               have cp3 := HB3.out.ptr.cell 0 rfl
               clear hw hKx))
          clear HF HR2 HB2 HL2 cp2
          cases hk : hasM S.data.toList a [123, 125]
          · have HF := Lib.hid (hasF (t := ⟨#[123, 125]⟩) HR3.out ha hk)
            rw [if_neg (by rw [hk]; simp)] at hq
            go_wp2_with (first
              | (go_at_call 63; (with_reducible refine HF.out.mono ?_); rintro e w4 ⟨rfl, m, hw⟩
                 have hKx : Kept (N1 rb) w3 w4 := by rw [hw]; exact (Kept.refl _ _).calm (below_drewN _ _ _)
                 have HR4 := Lib.hid (show Rdr w4 rb S a d false by rw [hw]; exact Rdr.drewN HR3.out m)
                 have HB4 := Lib.hid (HB3.out.keep hKx hrb)
                 have HL4 := Lib.hid (HL3.out.keep1 hKx hrb7)
                 have cp4 := HB4.out.ptr.cell 0 rfl
                 clear hw hKx))
            clear HF HR3 HB3 HL3 cp3
            cases hk : hasM S.data.toList a [38, 110, 105, 108]
            · have HF := Lib.hid (hasF (t := ⟨#[38, 110, 105, 108]⟩) HR4.out ha hk)
              rw [if_neg (by rw [hk]; simp)] at hq
              go_wp2_with (first
                | (go_at_call 63; (with_reducible refine HF.out.mono ?_); rintro e w5 ⟨rfl, m, hw⟩
                   have hKx : Kept (N1 rb) w4 w5 := by rw [hw]; exact (Kept.refl _ _).calm (below_drewN _ _ _)
                   have HR5 := Lib.hid (show Rdr w5 rb S a d false by rw [hw]; exact Rdr.drewN HR4.out m)
                   have HB5 := Lib.hid (HB4.out.keep hKx hrb)
                   have HL5 := Lib.hid (HL4.out.keep1 hKx hrb7)
                   have cp5 := HB5.out.ptr.cell 0 rfl
                   clear hw hKx))
              clear HF HR4 HB4 HL4 cp4
              cases hk : hasM S.data.toList a [35]
              · have HF := Lib.hid (hasF (t := ⟨#[35]⟩) HR5.out ha hk)
                rw [if_neg (by rw [hk]; simp)] at hq
                go_wp2_with (first
                  | (go_at_call 63; (with_reducible refine HF.out.mono ?_); rintro e w6 ⟨rfl, m, hw⟩
                     have hKx : Kept (N1 rb) w5 w6 := by rw [hw]; exact (Kept.refl _ _).calm (below_drewN _ _ _)
                     have HR6 := Lib.hid (show Rdr w6 rb S a d false by rw [hw]; exact Rdr.drewN HR5.out m)
                     have HB6 := Lib.hid (HB5.out.keep hKx hrb)
                     have HL6 := Lib.hid (HL5.out.keep1 hKx hrb7)
                     have cp6 := HB6.out.ptr.cell 0 rfl
                     clear hw hKx))
                clear HF HR5 HB5 HL5 cp5
                cases hk : hasM S.data.toList a [102]
                · have HF := Lib.hid (hasF (t := ⟨#[102]⟩) HR6.out ha hk)
                  rw [if_neg (by rw [hk]; simp)] at hq
                  go_wp2_with (first
                    | (go_at_call 63; (with_reducible refine HF.out.mono ?_); rintro e w7 ⟨rfl, m, hw⟩
                       have hKx : Kept (N1 rb) w6 w7 := by rw [hw]; exact (Kept.refl _ _).calm (below_drewN _ _ _)
                       have HR7 := Lib.hid (show Rdr w7 rb S a d false by rw [hw]; exact Rdr.drewN HR6.out m)
                       have HB7 := Lib.hid (HB6.out.keep hKx hrb)
                       have HL7 := Lib.hid (HL6.out.keep1 hKx hrb7)
                       have cp7 := HB7.out.ptr.cell 0 rfl
                       clear hw hKx))
                  clear HF HR6 HB6 HL6 cp6
                  cases hk : hasM S.data.toList a [64]
                  · have HF := Lib.hid (hasF (t := ⟨#[64]⟩) HR7.out ha hk)
                    rw [if_neg (by rw [hk]; simp)] at hq
                    go_wp2_with (first
                      | (go_at_call 63; (with_reducible refine HF.out.mono ?_); rintro e w8 ⟨rfl, m, hw⟩
                         have hKx : Kept (N1 rb) w7 w8 := by rw [hw]; exact (Kept.refl _ _).calm (below_drewN _ _ _)
                         have HR8 := Lib.hid (show Rdr w8 rb S a d false by rw [hw]; exact Rdr.drewN HR7.out m)
                         have HB8 := Lib.hid (HB7.out.keep hKx hrb)
                         have HL8 := Lib.hid (HL7.out.keep1 hKx hrb7)
                         have cp8 := HB8.out.ptr.cell 0 rfl
                         clear hw hKx))
                    clear HF HR7 HB7 HL7 cp7
                    cases hk : hasM S.data.toList a [37]
                    · have HF := Lib.hid (hasF (t := ⟨#[37]⟩) HR8.out ha hk)
                      rw [if_neg (by rw [hk]; simp)] at hq
                      go_wp2_with (first
                        | (go_at_call 63; (with_reducible refine HF.out.mono ?_); rintro e w9 ⟨rfl, m, hw⟩
                           have hKx : Kept (N1 rb) w8 w9 := by rw [hw]; exact (Kept.refl _ _).calm (below_drewN _ _ _)
                           have HR9 := Lib.hid (show Rdr w9 rb S a d false by rw [hw]; exact Rdr.drewN HR8.out m)
                           have HB9 := Lib.hid (HB8.out.keep hKx hrb)
                           have HL9 := Lib.hid (HL8.out.keep1 hKx hrb7)
                           have cp9 := HB9.out.ptr.cell 0 rfl
                           clear hw hKx))
                      clear HF HR8 HB8 HL8 cp8
                      cases hk : hasM S.data.toList a [33]
                      · have HF := Lib.hid (hasF (t := ⟨#[33]⟩) HR9.out ha hk)
                        rw [if_neg (by rw [hk]; simp)] at hq
                        go_wp2_with (first
                          | (go_at_call 63; (with_reducible refine HF.out.mono ?_); rintro e w10 ⟨rfl, m, hw⟩
                             have hKx : Kept (N1 rb) w9 w10 := by rw [hw]; exact (Kept.refl _ _).calm (below_drewN _ _ _)
                             have HR10 := Lib.hid (show Rdr w10 rb S a d false by rw [hw]; exact Rdr.drewN HR9.out m)
                             have HB10 := Lib.hid (HB9.out.keep hKx hrb)
                             have HL10 := Lib.hid (HL9.out.keep1 hKx hrb7)
                             have cp10 := HB10.out.ptr.cell 0 rfl
                             clear hw hKx))
                        clear HF HR9 HB9 HL9 cp9
                        cases hk : hasM S.data.toList a [38]
                        · have HF := Lib.hid (hasF (t := ⟨#[38]⟩) HR10.out ha hk)
                          rw [if_neg (by rw [hk]; simp)] at hq
                          go_wp2_with (first
                            | (go_at_call 63; (with_reducible refine HF.out.mono ?_); rintro e w11 ⟨rfl, m, hw⟩
                               have hKx : Kept (N1 rb) w10 w11 := by rw [hw]; exact (Kept.refl _ _).calm (below_drewN _ _ _)
                               have HR11 := Lib.hid (show Rdr w11 rb S a d false by rw [hw]; exact Rdr.drewN HR10.out m)
                               have HB11 := Lib.hid (HB10.out.keep hKx hrb)
                               have HL11 := Lib.hid (HL10.out.keep1 hKx hrb7)
                               have cp11 := HB11.out.ptr.cell 0 rfl
                               clear hw hKx))
                          clear HF HR10 HB10 HL10 cp10
                          cases hk : hasM S.data.toList a [91]
                          · have HF := Lib.hid (hasF (t := ⟨#[91]⟩) HR11.out ha hk)
                            rw [if_neg (by rw [hk]; simp)] at hq
                            go_wp2_with (first
                              | (go_at_call 63; (with_reducible refine HF.out.mono ?_); rintro e w12 ⟨rfl, m, hw⟩
                                 have hKx : Kept (N1 rb) w11 w12 := by rw [hw]; exact (Kept.refl _ _).calm (below_drewN _ _ _)
                                 have HR12 := Lib.hid (show Rdr w12 rb S a d false by rw [hw]; exact Rdr.drewN HR11.out m)
                                 have HB12 := Lib.hid (HB11.out.keep hKx hrb)
                                 have HL12 := Lib.hid (HL11.out.keep1 hKx hrb7)
                                 have cp12 := HB12.out.ptr.cell 0 rfl
                                 clear hw hKx))
                            clear HF HR11 HB11 HL11 cp11
                            cases hk : hasM S.data.toList a [40]
                            · have HF := Lib.hid (hasF (t := ⟨#[40]⟩) HR12.out ha hk)
                              rw [if_neg (by rw [hk]; simp)] at hq
                              go_wp2_with (first
                                | (go_at_call 63; (with_reducible refine HF.out.mono ?_); rintro e w13 ⟨rfl, m, hw⟩
                                   have hKx : Kept (N1 rb) w12 w13 := by rw [hw]; exact (Kept.refl _ _).calm (below_drewN _ _ _)
                                   have HR13 := Lib.hid (show Rdr w13 rb S a d false by rw [hw]; exact Rdr.drewN HR12.out m)
                                   have HB13 := Lib.hid (HB12.out.keep hKx hrb)
                                   have HL13 := Lib.hid (HL12.out.keep1 hKx hrb7)
                                   have cp13 := HB13.out.ptr.cell 0 rfl
                                   clear hw hKx))
                              clear HF HR12 HB12 HL12 cp12
                              have c0 := HR13.out.cell 0 rfl
                              have c1 := HR13.out.cell 1 rfl
                              have hp : ∀ w', Calls Tryd.prog 71 #[.string (S.extract a S.size), .string ⟨#[34]⟩] w' (fun e w'' => e = .returned (.bool (hasM S.data.toList a [34])) ∧ w'' = w') := fun w' => by
                                refine (Tryd.strings_HasPrefix _ _ w').mono ?_
                                rintro e w'' ⟨rfl, rfl⟩
                                exact ⟨by rw [ext_data]; rfl, rfl⟩
                              cases hk : hasM S.data.toList a [34]
                              · rw [hk] at hp
                                rw [if_neg (by rw [hk]; simp)] at hq
                                have HQ := Lib.hid hq
                                clear hq
                                go_quiet (exact Calls.quiet_of_same (hp _))
                                generalize hw : w13.drewN _ = w14
                                have hKx : Kept (N1 rb) w13 w14 := by rw [← hw]; exact (Kept.refl _ _).calm (below_drewN _ _ _)
                                have HR14 := Lib.hid (show Rdr w14 rb S a d false by rw [← hw]; exact Rdr.drewN HR13.out _)
                                have HB14 := Lib.hid (HB13.out.keep hKx hrb)
                                have HL14 := Lib.hid (HL13.out.keep1 hKx hrb7)
                                have cp14 := HB14.out.ptr.cell 0 rfl
                                have HC := Lib.hid (numberG HR14.out ha hS HL14.out hrb7)
                                clear hw hKx c0 c1 hp HR13 HB13 HL13 cp13
                                go_wp2_with (first
                                | (go_at_call 64; (with_reducible refine HC.out.mono ?_); rintro e v2 ⟨v, bad, rfl, hRx, hKx, hcase⟩
                                   have HRb := Lib.hid hRx
                                   have HBb := Lib.hid (HB14.out.keep hKx hrb)
                                   have HLb := Lib.hid (HL14.out.keep1 hKx hrb7)
                                   have cpb := HBb.out.ptr.cell 0 rfl
                                   have hob := HBb.out.out; have o0 := hob.cell 0 rfl; have o1 := hob.cell 1 rfl; have o2 := hob.cell 2 rfl; have o3 := hob.cell 3 rfl; have o4 := hob.cell 4 rfl; have p0 := hob.free 0 (by simp [V5]); have p1 := hob.free 1 (by simp [V5]); have p2 := hob.free 2 (by simp [V5]); have p3 := hob.free 3 (by simp [V5]); have p4 := hob.free 4 (by simp [V5]); clear hob; have HCA := Lib.hid hcase; clear hcase
                                   clear hRx hKx))
                                refine v_fin rfl HRb.out HBb.out hdd hd hrb ?_
                                intro wq hRq hKq hsame
                                have hq := HQ.out
                                rcases HCA.out with ⟨rfl, hn⟩ | ⟨rfl, hn⟩
                                · rw [hn] at hq; rw [← hq]; exact ⟨none, 0, 0, rfl, FoAt.nil _ _, ⟨hRq, numTo_end ha⟩, hKq⟩
                                · rw [hn] at hq; rw [← hq]; exact ⟨_, _, _, _, _, _, _, rfl, ⟨_, hRq, numTo_end ha⟩, hKq⟩
                              · rw [hk] at hp
                                rw [if_pos hk] at hq
                                have hno : false = false → hasM S.data.toList a [34] = true → quotedM S.data.toList f (a + 1) [] ≠ .out := by
                                  intro _ h h2
                                  rw [h2] at hq
                                  exact ho hq.symm
                                have HQ := Lib.hid hq
                                clear hq
                                go_quiet (exact Calls.quiet_of_same (hp _))
                                generalize hw : w13.drewN _ = w14
                                have hKx : Kept (N1 rb) w13 w14 := by rw [← hw]; exact (Kept.refl _ _).calm (below_drewN _ _ _)
                                have HR14 := Lib.hid (show Rdr w14 rb S a d false by rw [← hw]; exact Rdr.drewN HR13.out _)
                                have HB14 := Lib.hid (HB13.out.keep hKx hrb)
                                have HL14 := Lib.hid (HL13.out.keep1 hKx hrb7)
                                have cp14 := HB14.out.ptr.cell 0 rfl
                                have HC := Lib.hid (quotedG (f := f) HR14.out ha hS hno)
                                clear hw hKx c0 c1 hp HR13 HB13 HL13 cp13
                                go_wp2_with (first
                                | (go_at_call 67; (with_reducible refine HC.out.mono ?_); rintro e v2 ⟨t, bad, a', rfl, hRx, hle, hKx, hcase⟩
                                   have HRb := Lib.hid hRx
                                   have HBb := Lib.hid (HB14.out.keep hKx hrb)
                                   have HLb := Lib.hid (HL14.out.keep1 hKx hrb7)
                                   have cpb := HBb.out.ptr.cell 0 rfl
                                   have hob := HBb.out.out; have o0 := hob.cell 0 rfl; have o1 := hob.cell 1 rfl; have o2 := hob.cell 2 rfl; have o3 := hob.cell 3 rfl; have o4 := hob.cell 4 rfl; have p0 := hob.free 0 (by simp [V5]); have p1 := hob.free 1 (by simp [V5]); have p2 := hob.free 2 (by simp [V5]); have p3 := hob.free 3 (by simp [V5]); have p4 := hob.free 4 (by simp [V5]); clear hob; have HCA := Lib.hid hcase; clear hcase
                                   clear hRx hKx))
                                refine v_fin rfl HRb.out HBb.out hdd hd hrb ?_
                                intro wq hRq hKq hsame
                                have hq := HQ.out
                                rcases HCA.out with ⟨rfl, _, hn, hn2⟩ | ⟨rfl, hn | hn | ⟨hn, hn2⟩⟩
                                · rw [hn2] at hq; rw [← hq]; exact ⟨none, 0, 0, rfl, FoAt.nil _ _, ⟨hRq, hle⟩, hKq⟩
                                · cases hn
                                · rw [hk] at hn; cases hn
                                · rw [hn2] at hq; rw [← hq]; exact ⟨_, _, _, _, _, _, _, rfl, ⟨_, hRq, hle⟩, hKq⟩
                            · rw [if_pos hk] at hq
                              have hat := hasM_end (t := ⟨#[40]⟩) ha hk
                              replace hat : a + 1 ≤ S.size := hat
                              have HT := Lib.hid (hasT (t := ⟨#[40]⟩) HR12.out ha hS (by decide) hk)
                              have hno : false = false → rowM S.data.toList f d (a + 1) [41] .nil ≠ .out := by
                                intro _ h2
                                rw [← hdd, h2] at hq
                                exact ho hq.symm
                              rw [← hdd] at hq
                              go_wp2_with (first
                                | (go_at_call 63; (with_reducible refine HT.out.mono ?_); rintro e v1 ⟨rfl, hRx, hKx⟩
                                   have hRx : Rdr v1 rb S (a + 1) d false := hRx
                                   have HRa := Lib.hid hRx
                                   have HBa := Lib.hid (HB12.out.keep hKx hrb)
                                   have HLa := Lib.hid (HL12.out.keep1 hKx hrb7)
                                   have cpa := HBa.out.ptr.cell 0 rfl
                                   have HSZ9 := Lib.hid (show w.heap.size + 2 ≤ v1.heap.size from HBa.out.out.lt); have HC := Lib.hid (rowG (f := f) (t := ⟨#[41]⟩) hROK hRx hat hd17 HLa.out hrb7 (by decide) hno)
                                   clear hRx hKx)
                                | (go_at_call 70; (with_reducible refine HC.out.mono ?_); rintro e v2 ⟨l, n, c, bad9, a', fo, rfl, hRx, hle, hKx, hcase⟩
                                   have HRb := Lib.hid hRx
                                   have HBb := Lib.hid (HBa.out.keep hKx hrb)
                                   have HLb := Lib.hid (HLa.out.keep1 hKx hrb7)
                                   have cpb := HBb.out.ptr.cell 0 rfl
                                   have hob := HBb.out.out; have o0 := hob.cell 0 rfl; have o1 := hob.cell 1 rfl; have o2 := hob.cell 2 rfl; have o3 := hob.cell 3 rfl; have o4 := hob.cell 4 rfl; have p0 := hob.free 0 (by simp [V5]); have p1 := hob.free 1 (by simp [V5]); have p2 := hob.free 2 (by simp [V5]); have p3 := hob.free 3 (by simp [V5]); have p4 := hob.free 4 (by simp [V5]); clear hob; have HCR := Lib.hid hcase; clear hcase
                                   clear hRx hKx))
                              refine v_fin rfl HRb.out HBb.out hdd hd hrb ?_
                              intro wq hRq hKq hsame
                              rcases HCR.out with ⟨rfl, _, hn, hF⟩ | ⟨rfl, hn | hn⟩
                              · replace hn : rowM S.data.toList f d (a + 1) [41] .nil = .ok fo a' := hn
                                rw [hn] at hq
                                have hFq : FoAt (fun x => w.heap.size ≤ x) wq fo l n c := hF.same (fun x hx hlt => hsame x (by have := HSZ9.out; omega) hlt) (fun x hx _ => by have := HSZ9.out; omega)
                                rw [← hq]; exact ⟨l, n, c, rfl, hFq, ⟨hRq, hle⟩, hKq⟩
                              · cases hn
                              · replace hn : rowM S.data.toList f d (a + 1) [41] .nil = .bad := hn
                                rw [hn] at hq; rw [← hq]; exact ⟨_, _, _, _, _, _, _, rfl, ⟨_, hRq, hle⟩, hKq⟩
                          · rw [if_pos hk] at hq
                            have hat := hasM_end (t := ⟨#[91]⟩) ha hk
                            replace hat : a + 1 ≤ S.size := hat
                            have HT := Lib.hid (hasT (t := ⟨#[91]⟩) HR11.out ha hS (by decide) hk)
                            have hno : false = false → rowM S.data.toList f d (a + 1) [93] .nil ≠ .out := by
                              intro _ h2
                              rw [← hdd, h2] at hq
                              exact ho hq.symm
                            rw [← hdd] at hq
                            go_wp2_with (first
                              | (go_at_call 63; (with_reducible refine HT.out.mono ?_); rintro e v1 ⟨rfl, hRx, hKx⟩
                                 have hRx : Rdr v1 rb S (a + 1) d false := hRx
                                 have HRa := Lib.hid hRx
                                 have HBa := Lib.hid (HB11.out.keep hKx hrb)
                                 have HLa := Lib.hid (HL11.out.keep1 hKx hrb7)
                                 have cpa := HBa.out.ptr.cell 0 rfl
                                 have HSZ9 := Lib.hid (show w.heap.size + 2 ≤ v1.heap.size from HBa.out.out.lt); have HC := Lib.hid (rowG (f := f) (t := ⟨#[93]⟩) hROK hRx hat hd17 HLa.out hrb7 (by decide) hno)
                                 clear hRx hKx)
                              | (go_at_call 70; (with_reducible refine HC.out.mono ?_); rintro e v2 ⟨l, n, c, bad9, a', fo, rfl, hRx, hle, hKx, hcase⟩
                                 have HRb := Lib.hid hRx
                                 have HBb := Lib.hid (HBa.out.keep hKx hrb)
                                 have HLb := Lib.hid (HLa.out.keep1 hKx hrb7)
                                 have cpb := HBb.out.ptr.cell 0 rfl
                                 have hob := HBb.out.out; have o0 := hob.cell 0 rfl; have o1 := hob.cell 1 rfl; have o2 := hob.cell 2 rfl; have o3 := hob.cell 3 rfl; have o4 := hob.cell 4 rfl; have p0 := hob.free 0 (by simp [V5]); have p1 := hob.free 1 (by simp [V5]); have p2 := hob.free 2 (by simp [V5]); have p3 := hob.free 3 (by simp [V5]); have p4 := hob.free 4 (by simp [V5]); clear hob; have HCR := Lib.hid hcase; clear hcase
                                 clear hRx hKx))
                            refine v_fin rfl HRb.out HBb.out hdd hd hrb ?_
                            intro wq hRq hKq hsame
                            rcases HCR.out with ⟨rfl, _, hn, hF⟩ | ⟨rfl, hn | hn⟩
                            · replace hn : rowM S.data.toList f d (a + 1) [93] .nil = .ok fo a' := hn
                              rw [hn] at hq
                              have hFq : FoAt (fun x => w.heap.size ≤ x) wq fo l n c := hF.same (fun x hx hlt => hsame x (by have := HSZ9.out; omega) hlt) (fun x hx _ => by have := HSZ9.out; omega)
                              rw [← hq]; exact ⟨l, n, c, rfl, hFq, ⟨hRq, hle⟩, hKq⟩
                            · cases hn
                            · replace hn : rowM S.data.toList f d (a + 1) [93] .nil = .bad := hn
                              rw [hn] at hq; rw [← hq]; exact ⟨_, _, _, _, _, _, _, rfl, ⟨_, hRq, hle⟩, hKq⟩
                        · rw [if_pos hk] at hq
                          have hat := hasM_end (t := ⟨#[38]⟩) ha hk
                          replace hat : a + 1 ≤ S.size := hat
                          have HT := Lib.hid (hasT (t := ⟨#[38]⟩) HR10.out ha hS (by decide) hk)
                          rw [← hdd] at hq
                          have hnb : numTo S.data.toList (a + 1) ≤ S.size := numTo_end hat
                          have hno : ∀ v, numberM S.data.toList (a + 1) = some v → hasM S.data.toList (numTo S.data.toList (a + 1)) [40] = true → rowM S.data.toList f d (numTo S.data.toList (a + 1) + 1) [41] .nil ≠ .out := by
                            intro v h1 h h2
                            rw [h1] at hq
                            simp only [if_pos h, h2] at hq
                            exact ho hq.symm
                          have HNB := Lib.hid hnb
                          have HNO := Lib.hid hno
                          have HQ := Lib.hid hq
                          clear hnb hno hq
                          go_wp2_with (first
                            | (go_at_call 63; (with_reducible refine HT.out.mono ?_); rintro e v1 ⟨rfl, hRx, hKx⟩
                               have hRx : Rdr v1 rb S (a + 1) d false := hRx
                               have HRa := Lib.hid hRx
                               have HBa := Lib.hid (HB10.out.keep hKx hrb)
                               have HLa := Lib.hid (HL10.out.keep1 hKx hrb7)
                               have cpa := HBa.out.ptr.cell 0 rfl
                               have HC := Lib.hid (numberG hRx hat hS HLa.out hrb7)
                               clear hRx hKx)
                            | (go_at_call 64; (with_reducible refine HC.out.mono ?_); rintro e v2 ⟨v, bad, rfl, hRx, hKx, hcase⟩
                               have HRb := Lib.hid hRx
                               have HBb := Lib.hid (HBa.out.keep hKx hrb)
                               have HLb := Lib.hid (HLa.out.keep1 hKx hrb7)
                               have cpb := HBb.out.ptr.cell 0 rfl
                               have HCA := Lib.hid hcase; have HC2 := Lib.hid (wantG (t := ⟨#[40]⟩) hRx HNB.out hS (by decide)); clear hcase
                               clear hRx hKx)
                            | (go_at_call 69; (with_reducible refine HC2.out.mono ?_); rintro e v3 ⟨bad2, a2, rfl, hRx, hle2, hKx, hcase⟩
                               have HRc := Lib.hid hRx
                               have HBc := Lib.hid (HBb.out.keep hKx hrb)
                               have HLc := Lib.hid (HLb.out.keep1 hKx hrb7)
                               have cpc := HBc.out.ptr.cell 0 rfl
                               have HCB := Lib.hid hcase; have HSZ9 := Lib.hid (show w.heap.size + 2 ≤ v3.heap.size from HBc.out.out.lt); have HC3 := Lib.hid (rowG (f := f) (t := ⟨#[41]⟩) hROK hRx hle2 hd17 HLc.out hrb7 (by decide) (ptrc hcase HCA.out HNO.out)); clear hcase
                               clear hRx hKx)
                            | (go_at_call 70; (with_reducible refine HC3.out.mono ?_); rintro e v4 ⟨l, n, c, bad9, a', fo, rfl, hRx, hle, hKx, hcase⟩
                               have HRd := Lib.hid hRx
                               have HBd := Lib.hid (HBc.out.keep hKx hrb)
                               have HLd := Lib.hid (HLc.out.keep1 hKx hrb7)
                               have cpd := HBd.out.ptr.cell 0 rfl
                               have hob := HBd.out.out; have o0 := hob.cell 0 rfl; have o1 := hob.cell 1 rfl; have o2 := hob.cell 2 rfl; have o3 := hob.cell 3 rfl; have o4 := hob.cell 4 rfl; have p0 := hob.free 0 (by simp [V5]); have p1 := hob.free 1 (by simp [V5]); have p2 := hob.free 2 (by simp [V5]); have p3 := hob.free 3 (by simp [V5]); have p4 := hob.free 4 (by simp [V5]); clear hob; have HCR := Lib.hid hcase; clear hcase
                               clear hRx hKx))
                          refine v_fin rfl HRd.out HBd.out hdd hd hrb ?_
                          intro wq hRq hKq hsame
                          have hq := HQ.out
                          rcases HCA.out with ⟨rfl, hn1⟩ | ⟨rfl, hn1⟩
                          · rw [hn1] at hq
                            rcases HCB.out with ⟨rfl, _, hh, rfl⟩ | ⟨rfl, hn | hn⟩
                            · simp only [if_pos (show hasM S.data.toList (numTo S.data.toList (a + 1)) [40] = true from hh)] at hq
                              rcases HCR.out with ⟨rfl, _, hn, hF⟩ | ⟨rfl, hn | hn⟩
                              · replace hn : rowM S.data.toList f d (numTo S.data.toList (a + 1) + 1) [41] .nil = .ok fo a' := hn
                                rw [hn] at hq
                                have hFq : FoAt (fun x => w.heap.size ≤ x) wq fo l n c := hF.same (fun x hx hlt => hsame x (by have := HSZ9.out; omega) hlt) (fun x hx _ => by have := HSZ9.out; omega)
                                rw [← hq]; exact ⟨l, n, c, rfl, hFq, ⟨hRq, hle⟩, hKq⟩
                              · cases hn
                              · replace hn : rowM S.data.toList f d (numTo S.data.toList (a + 1) + 1) [41] .nil = .bad := hn
                                rw [hn] at hq; rw [← hq]; exact ⟨_, _, _, _, _, _, _, rfl, ⟨_, hRq, hle⟩, hKq⟩
                            · cases hn
                            · simp only [show hasM S.data.toList (numTo S.data.toList (a + 1)) [40] = false from hn] at hq
                              rcases HCR.out with ⟨rfl, hn, _⟩ | ⟨rfl, _⟩
                              · cases hn
                              · rw [← hq]; exact ⟨_, _, _, _, _, _, _, rfl, ⟨_, hRq, hle⟩, hKq⟩
                          · rw [hn1] at hq
                            rcases HCB.out with ⟨_, hn, _⟩ | ⟨rfl, _⟩
                            · cases hn
                            · rcases HCR.out with ⟨rfl, hn, _⟩ | ⟨rfl, _⟩
                              · cases hn
                              · rw [← hq]; exact ⟨_, _, _, _, _, _, _, rfl, ⟨_, hRq, hle⟩, hKq⟩
                      · rw [if_pos hk] at hq
                        have hat := hasM_end (t := ⟨#[33]⟩) ha hk
                        replace hat : a + 1 ≤ S.size := hat
                        have HT := Lib.hid (hasT (t := ⟨#[33]⟩) HR9.out ha hS (by decide) hk)
                        have hnb : numTo S.data.toList (a + 1) ≤ S.size := numTo_end hat
                        have hno : ∀ v, numberM S.data.toList (a + 1) = some v → hasM S.data.toList (numTo S.data.toList (a + 1)) [34] = true → quotedM S.data.toList f (numTo S.data.toList (a + 1) + 1) [] ≠ .out := by
                          intro v h1 h h2
                          rw [h1] at hq
                          simp only [if_pos h, h2] at hq
                          exact ho hq.symm
                        have HNB := Lib.hid hnb
                        have HNO := Lib.hid hno
                        have HQ := Lib.hid hq
                        clear hnb hno hq
                        go_wp2_with (first
                          | (go_at_call 63; (with_reducible refine HT.out.mono ?_); rintro e v1 ⟨rfl, hRx, hKx⟩
                             have hRx : Rdr v1 rb S (a + 1) d false := hRx
                             have HRa := Lib.hid hRx
                             have HBa := Lib.hid (HB9.out.keep hKx hrb)
                             have HLa := Lib.hid (HL9.out.keep1 hKx hrb7)
                             have cpa := HBa.out.ptr.cell 0 rfl
                             have HC := Lib.hid (numberG hRx hat hS HLa.out hrb7)
                             clear hRx hKx)
                          | (go_at_call 64; (with_reducible refine HC.out.mono ?_); rintro e v2 ⟨v, bad, rfl, hRx, hKx, hcase⟩
                             have HRb := Lib.hid hRx
                             have HBb := Lib.hid (HBa.out.keep hKx hrb)
                             have HLb := Lib.hid (HLa.out.keep1 hKx hrb7)
                             have cpb := HBb.out.ptr.cell 0 rfl
                             have HCA := Lib.hid hcase; have HC2 := Lib.hid (quotedG (f := f) hRx HNB.out hS (errc hcase HNO.out)); clear hcase
                             clear hRx hKx)
                          | (go_at_call 67; (with_reducible refine HC2.out.mono ?_); rintro e v3 ⟨t, bad2, a', rfl, hRx, hle, hKx, hcase⟩
                             have HRc := Lib.hid hRx
                             have HBc := Lib.hid (HBb.out.keep hKx hrb)
                             have HLc := Lib.hid (HLb.out.keep1 hKx hrb7)
                             have cpc := HBc.out.ptr.cell 0 rfl
                             have hob := HBc.out.out; have o0 := hob.cell 0 rfl; have o1 := hob.cell 1 rfl; have o2 := hob.cell 2 rfl; have o3 := hob.cell 3 rfl; have o4 := hob.cell 4 rfl; have p0 := hob.free 0 (by simp [V5]); have p1 := hob.free 1 (by simp [V5]); have p2 := hob.free 2 (by simp [V5]); have p3 := hob.free 3 (by simp [V5]); have p4 := hob.free 4 (by simp [V5]); clear hob; have HCB := Lib.hid hcase; clear hcase
                             clear hRx hKx))
                        refine v_fin rfl HRc.out HBc.out hdd hd hrb ?_
                        intro wq hRq hKq hsame
                        have hq := HQ.out
                        rcases HCA.out with ⟨rfl, hn1⟩ | ⟨rfl, hn1⟩
                        · rw [hn1] at hq
                          rcases HCB.out with ⟨rfl, _, hn, hn2⟩ | ⟨rfl, hn | hn | ⟨hn, hn2⟩⟩
                          · simp only [if_pos hn, hn2] at hq; rw [← hq]; exact ⟨none, 0, 0, rfl, FoAt.nil _ _, ⟨hRq, hle⟩, hKq⟩
                          · cases hn
                          · simp only [hn] at hq; rw [← hq]; exact ⟨_, _, _, _, _, _, _, rfl, ⟨_, hRq, hle⟩, hKq⟩
                          · simp only [if_pos hn, hn2] at hq; rw [← hq]; exact ⟨_, _, _, _, _, _, _, rfl, ⟨_, hRq, hle⟩, hKq⟩
                        · rw [hn1] at hq
                          rcases HCB.out with ⟨rfl, hn, _⟩ | ⟨rfl, _⟩
                          · cases hn
                          · rw [← hq]; exact ⟨_, _, _, _, _, _, _, rfl, ⟨_, hRq, hle⟩, hKq⟩
                    · rw [if_pos hk] at hq
                      have hat := hasM_end (t := ⟨#[37]⟩) ha hk
                      replace hat : a + 1 ≤ S.size := hat
                      have HT := Lib.hid (hasT (t := ⟨#[37]⟩) HR8.out ha hS (by decide) hk)
                      generalize hn : whileM S.data.toList (a + 1) hexD = n at *
                      have hne : a + 1 + n ≤ S.size := by rw [← hn, Lib.size_eq]; exact whileM_le _ _ _ (by rw [← Lib.size_eq]; exact hat)
                      have hes : (S.extract (a + 1) (a + 1 + n)).size ≤ 1000000000000 := by rw [ByteArray.size_extract]; omega
                      have hxl : (S.extract (a + 1) (a + 1 + n)).data.toList = (S.data.toList.drop (a + 1)).take n := by rw [Lib.extract_data, Nat.add_sub_cancel_left]
                      have HXL := Lib.hid hxl
                      clear hxl
                      go_wp2_with (first
                        | (go_at_call 63; (with_reducible refine HT.out.mono ?_); rintro e v1 ⟨rfl, hRx, hKx⟩
                           have hRx : Rdr v1 rb S (a + 1) d false := hRx
                           have HRa := Lib.hid hRx
                           have HBa := Lib.hid (HB8.out.keep hKx hrb)
                           have HLa := Lib.hid (HL8.out.keep1 hKx hrb7)
                           have cpa := HBa.out.ptr.cell 0 rfl
                           have HC := Lib.hid (whileN (n := n) (set := ⟨#[48, 49, 50, 51, 52, 53, 54, 55, 56, 57, 97, 98, 99, 100, 101, 102]⟩) hRx hat hS hn)
                           clear hRx hKx)
                        | (go_at_call 65; (with_reducible refine HC.out.mono ?_); rintro e v2 ⟨rfl, hRx, hKx⟩
                           have HRb := Lib.hid hRx
                           have HBb := Lib.hid (HBa.out.keep hKx hrb)
                           have HLb := Lib.hid (HLa.out.keep1 hKx hrb7)
                           have cpb := HBb.out.ptr.cell 0 rfl
                           have HU := Lib.hid (unpairN (s := S.extract (a + 1) (a + 1 + n)) (w := v2) hes)
                           clear hRx hKx)
                        | (go_at_call 68; (with_reducible refine HU.out.mono ?_); rintro e v3 ⟨l5, n5, c5, ok, bs, rfl, hbl, hrow5, hB5, hcase⟩
                           have hKx : Kept (N1 rb) v2 v3 := .of' hB5
                           have HRc := Lib.hid (show Rdr v3 rb S (a + 1 + n) d false from Blk.below HRb.out hB5)
                           have HBc := Lib.hid (HBb.out.keep hKx hrb)
                           have cpc := HBc.out.ptr.cell 0 rfl
                           have cbc := HRc.out.cell 3 rfl
                           have HROW5 := Lib.hid hrow5
                           have HCA := Lib.hid hcase
                           have HLc := Lib.hid (HLb.out.keep1 hKx hrb7)
                           clear hbl hrow5 hB5 hcase hKx))
                      have fbc := HRc.out.free 3 (by simp)
                      go_region
                      have hRx : Rdr ((v3.setCell ⟨rb, 3, none⟩ (.bool !ok)).drew) rb S (a + 1 + n) d (!ok) := Blk.below (by simpa [Rdr] using Blk.set HRc.out (j := 3) (.bool !ok)) (Below.refl _ _).drew
                      have hKx : Kept (N1 rb) v3 ((v3.setCell ⟨rb, 3, none⟩ (.bool !ok)).drew) := ((Kept.refl (N1 rb) v3).put (p := ⟨rb, 3, none⟩) _ (fun _ => rfl)).drew
                      have hrw := HROW5.out.keep1 hKx HRb.out.lt
                      generalize (v3.setCell ⟨rb, 3, none⟩ (.bool !ok)).drew = v4 at *
                      have HRd := Lib.hid hRx
                      have HBd := Lib.hid (HBc.out.keep hKx hrb)
                      have hcv := conv_row hrw
                      have cpd := HBd.out.ptr.cell 0 rfl
                      have hob := HBd.out.out; have o0 := hob.cell 0 rfl; have o1 := hob.cell 1 rfl; have o2 := hob.cell 2 rfl; have o3 := hob.cell 3 rfl; have o4 := hob.cell 4 rfl; have p0 := hob.free 0 (by simp [V5]); have p1 := hob.free 1 (by simp [V5]); have p2 := hob.free 2 (by simp [V5]); have p3 := hob.free 3 (by simp [V5]); have p4 := hob.free 4 (by simp [V5]); clear hob
                      have HQ := Lib.hid hq
                      clear hRx hKx hrw cbc fbc cpc hq
                      go_wp2_with fail
                      refine v_fin rfl HRd.out HBd.out hdd hd hrb ?_
                      intro wq hRq hKq hsame
                      have hq := HQ.out
                      rcases HCA.out with ⟨rfl, hu⟩ | ⟨rfl, hu⟩
                      · rw [HXL.out] at hu; rw [hu] at hq; rw [← hq]; exact ⟨_, _, _, _, _, _, _, rfl, ⟨_, hRq, hne⟩, hKq⟩
                      · rw [HXL.out] at hu; rw [hu] at hq; rw [← hq]; exact ⟨none, 0, 0, rfl, FoAt.nil _ _, ⟨hRq, hne⟩, hKq⟩
                  · rw [if_pos hk] at hq
                    have hat := hasM_end (t := ⟨#[64]⟩) ha hk
                    replace hat : a + 1 ≤ S.size := hat
                    have HT := Lib.hid (hasT (t := ⟨#[64]⟩) HR7.out ha hS (by decide) hk)
                    have hno : false = false → hasM S.data.toList (a + 1) [34] = true → quotedM S.data.toList f (a + 1 + 1) [] ≠ .out := by
                      intro _ h h2
                      rw [if_pos h, show a + 2 = a + 1 + 1 from rfl, h2] at hq
                      exact ho hq.symm
                    go_wp2_with (first
                      | (go_at_call 63; (with_reducible refine HT.out.mono ?_); rintro e v1 ⟨rfl, hRx, hKx⟩
                         have hRx : Rdr v1 rb S (a + 1) d false := hRx
                         have HRa := Lib.hid hRx
                         have HBa := Lib.hid (HB7.out.keep hKx hrb)
                         have HLa := Lib.hid (HL7.out.keep1 hKx hrb7)
                         have cpa := HBa.out.ptr.cell 0 rfl
                         have HC := Lib.hid (quotedG (f := f) hRx hat hS hno)
                         clear hRx hKx)
                      | (go_at_call 67; (with_reducible refine HC.out.mono ?_); rintro e v2 ⟨t, bad, a', rfl, hRx, hle, hKx, hcase⟩
                         have HRb := Lib.hid hRx
                         have HBb := Lib.hid (HBa.out.keep hKx hrb)
                         have HLb := Lib.hid (HLa.out.keep1 hKx hrb7)
                         have cpb := HBb.out.ptr.cell 0 rfl
                         have hob := HBb.out.out; have o0 := hob.cell 0 rfl; have o1 := hob.cell 1 rfl; have o2 := hob.cell 2 rfl; have o3 := hob.cell 3 rfl; have o4 := hob.cell 4 rfl; have p0 := hob.free 0 (by simp [V5]); have p1 := hob.free 1 (by simp [V5]); have p2 := hob.free 2 (by simp [V5]); have p3 := hob.free 3 (by simp [V5]); have p4 := hob.free 4 (by simp [V5]); clear hob; have HCA := Lib.hid hcase; clear hcase
                         clear hRx hKx))
                    refine v_fin rfl HRb.out HBb.out hdd hd hrb ?_
                    intro wq hRq hKq hsame
                    rcases HCA.out with ⟨rfl, _, hn, hn2⟩ | ⟨rfl, hn | hn | ⟨hn, hn2⟩⟩
                    · rw [if_pos hn, show a + 2 = a + 1 + 1 from rfl, hn2] at hq; rw [← hq]; exact ⟨none, 0, 0, rfl, FoAt.nil _ _, ⟨hRq, hle⟩, hKq⟩
                    · cases hn
                    · rw [if_neg (by rw [hn]; simp)] at hq; rw [← hq]; exact ⟨_, _, _, _, _, _, _, rfl, ⟨_, hRq, hle⟩, hKq⟩
                    · rw [if_pos hn, show a + 2 = a + 1 + 1 from rfl, hn2] at hq; rw [← hq]; exact ⟨_, _, _, _, _, _, _, rfl, ⟨_, hRq, hle⟩, hKq⟩
                · rw [if_pos hk] at hq
                  have hat := hasM_end (t := ⟨#[102]⟩) ha hk
                  replace hat : a + 1 ≤ S.size := hat
                  have HT := Lib.hid (hasT (t := ⟨#[102]⟩) HR6.out ha hS (by decide) hk)
                  have hall := run_all hexD (S.data.toList.drop (a + 1))
                  rw [show runM hexD (S.data.toList.drop (a + 1)) = whileM S.data.toList (a + 1) hexD from rfl] at hall
                  generalize hn : whileM S.data.toList (a + 1) hexD = n at *
                  have hne : a + 1 + n ≤ S.size := by rw [← hn, Lib.size_eq]; exact whileM_le _ _ _ (by rw [← Lib.size_eq]; exact hat)
                  have hes : (S.extract (a + 1) (a + 1 + n)).size = n := by rw [ByteArray.size_extract]; omega
                  have hxl : (S.extract (a + 1) (a + 1 + n)).data.toList = (S.data.toList.drop (a + 1)).take n := by rw [Lib.extract_data, Nat.add_sub_cancel_left]
                  rw [← hxl] at hall
                  generalize hs16 : S.extract (a + 1) (a + 1 + n) = s16 at *
                  have HS16 := Lib.hid hs16
                  have HALL := Lib.hid hall
                  have HXL := Lib.hid hxl
                  have HES := Lib.hid hes
                  have HQ := Lib.hid hq
                  have HN := Lib.hid hn
                  clear hxl hall hs16 hes hq hn
                  go_wp2_with (first
                    | (go_at_call 63; (with_reducible refine HT.out.mono ?_); rintro e v1 ⟨rfl, hRx, hKx⟩
                       have hRx : Rdr v1 rb S (a + 1) d false := hRx
                       have HRa := Lib.hid hRx
                       have HBa := Lib.hid (HB6.out.keep hKx hrb)
                       have HLa := Lib.hid (HL6.out.keep1 hKx hrb7)
                       have cpa := HBa.out.ptr.cell 0 rfl
                       have HC := whileN (n := n) (set := ⟨#[48, 49, 50, 51, 52, 53, 54, 55, 56, 57, 97, 98, 99, 100, 101, 102]⟩) hRx hat hS HN.out
                       rw [HS16.out] at HC
                       have HC := Lib.hid HC
                       clear hRx hKx)
                    | (go_at_call 65; (with_reducible refine HC.out.mono ?_); rintro e v2 ⟨rfl, hRx, hKx⟩
                       have HRb := Lib.hid hRx
                       have HBb := Lib.hid (HBa.out.keep hKx hrb)
                       have HLb := Lib.hid (HLa.out.keep1 hKx hrb7)
                       have cpb := HBb.out.ptr.cell 0 rfl
                       have HU := Lib.hid (parseU (t := s16) HALL.out (by have := HES.out; omega) HLb.out)
                       clear hRx hKx)
                    | (go_at_call 66; (with_reducible refine HU.out.mono ?_); rintro e v3 ⟨hB5, nn, er, rfl, hnn, hcase⟩
                       have hKx : Kept (N1 rb) v2 v3 := .of' hB5
                       have HRc := Lib.hid (show Rdr v3 rb S (a + 1 + n) d false from Blk.below HRb.out hB5)
                       have HBc := Lib.hid (HBb.out.keep hKx hrb)
                       have cpc := HBc.out.ptr.cell 0 rfl
                       have cbc := HRc.out.cell 3 rfl
                       have HCA := Lib.hid hcase
                       clear hB5 hcase hKx hnn))
                  by_cases h16 : n = 16
                  · obtain ⟨rfl, hnn⟩ : er = .nilIface ∧ nn = hexM s16.data.toList 0 := by
                      rcases HCA.out with h | ⟨h, _⟩
                      · exact h
                      · exact absurd (HES.out.trans h16) h
                    have hl16 : ((s16.size : Int) != 16) = false := by rw [HES.out, h16]; rfl
                    have H16 := Lib.hid h16
                    have HNN := Lib.hid hnn
                    clear h16 hnn
                    have fbc := HRc.out.free 3 (by simp)
                    go_region
                    have hRx : Rdr ((v3.setCell ⟨rb, 3, none⟩ (.bool false)).drew) rb S (a + 1 + n) d false := Blk.below (by simpa [Rdr] using Blk.set HRc.out (j := 3) (.bool false)) (Below.refl _ _).drew
                    have hKx : Kept (N1 rb) v3 ((v3.setCell ⟨rb, 3, none⟩ (.bool false)).drew) := ((Kept.refl (N1 rb) v3).put (p := ⟨rb, 3, none⟩) _ (fun _ => rfl)).drew
                    generalize (v3.setCell ⟨rb, 3, none⟩ (.bool false)).drew = v4 at *
                    have HRd := Lib.hid hRx
                    have HBd := Lib.hid (HBc.out.keep hKx hrb)
                    have cpd := HBd.out.ptr.cell 0 rfl
                    have hob := HBd.out.out; have o0 := hob.cell 0 rfl; have o1 := hob.cell 1 rfl; have o2 := hob.cell 2 rfl; have o3 := hob.cell 3 rfl; have o4 := hob.cell 4 rfl; have p0 := hob.free 0 (by simp [V5]); have p1 := hob.free 1 (by simp [V5]); have p2 := hob.free 2 (by simp [V5]); have p3 := hob.free 3 (by simp [V5]); have p4 := hob.free 4 (by simp [V5]); clear hob
                    clear hRx hKx fbc
                    go_wp2_with fail
                    refine v_fin rfl HRd.out HBd.out hdd hd hrb ?_
                    intro wq hRq hKq hsame
                    have hq := HQ.out
                    rw [if_pos H16.out] at hq
                    rw [← hq]
                    refine ⟨none, 0, 0, ?_, FoAt.nil _ _, ⟨by rw [show a + 17 = a + 1 + n by rw [H16.out]]; exact hRq, by have := H16.out; omega⟩, hKq⟩
                    rw [HNN.out, HXL.out, H16.out]
                  · have hl16 : ((s16.size : Int) != 16) = true := by rw [HES.out]; simp; omega
                    have H16 := Lib.hid h16
                    clear h16
                    have fbc := HRc.out.free 3 (by simp)
                    go_region
                    have hRx : Rdr ((v3.setCell ⟨rb, 3, none⟩ (.bool true)).drew) rb S (a + 1 + n) d true := Blk.below (by simpa [Rdr] using Blk.set HRc.out (j := 3) (.bool true)) (Below.refl _ _).drew
                    have hKx : Kept (N1 rb) v3 ((v3.setCell ⟨rb, 3, none⟩ (.bool true)).drew) := ((Kept.refl (N1 rb) v3).put (p := ⟨rb, 3, none⟩) _ (fun _ => rfl)).drew
                    generalize (v3.setCell ⟨rb, 3, none⟩ (.bool true)).drew = v4 at *
                    have HRd := Lib.hid hRx
                    have HBd := Lib.hid (HBc.out.keep hKx hrb)
                    have cpd := HBd.out.ptr.cell 0 rfl
                    have hob := HBd.out.out; have o0 := hob.cell 0 rfl; have o1 := hob.cell 1 rfl; have o2 := hob.cell 2 rfl; have o3 := hob.cell 3 rfl; have o4 := hob.cell 4 rfl; have p0 := hob.free 0 (by simp [V5]); have p1 := hob.free 1 (by simp [V5]); have p2 := hob.free 2 (by simp [V5]); have p3 := hob.free 3 (by simp [V5]); have p4 := hob.free 4 (by simp [V5]); clear hob
                    clear hRx hKx fbc
                    go_wp2_with fail
                    refine v_fin rfl HRd.out HBd.out hdd hd hrb ?_
                    intro wq hRq hKq hsame
                    have hq := HQ.out
                    rw [if_neg H16.out] at hq
                    rw [← hq]
                    exact ⟨_, _, _, _, _, _, _, rfl, ⟨_, hRq, hne⟩, hKq⟩
              · rw [if_pos hk] at hq
                have hat := hasM_end (t := ⟨#[35]⟩) ha hk
                replace hat : a + 1 ≤ S.size := hat
                have HT := Lib.hid (hasT (t := ⟨#[35]⟩) HR5.out ha hS (by decide) hk)
                go_wp2_with (first
                  | (go_at_call 63; (with_reducible refine HT.out.mono ?_); rintro e v1 ⟨rfl, hRx, hKx⟩
                     have hRx : Rdr v1 rb S (a + 1) d false := hRx
                     have HRa := Lib.hid hRx
                     have HBa := Lib.hid (HB5.out.keep hKx hrb)
                     have HLa := Lib.hid (HL5.out.keep1 hKx hrb7)
                     have cpa := HBa.out.ptr.cell 0 rfl
                     have HC := Lib.hid (numberG hRx hat hS HLa.out hrb7)
                     clear hRx hKx)
                  | (go_at_call 64; (with_reducible refine HC.out.mono ?_); rintro e v2 ⟨v, bad, rfl, hRx, hKx, hcase⟩
                     have HRb := Lib.hid hRx
                     have HBb := Lib.hid (HBa.out.keep hKx hrb)
                     have HLb := Lib.hid (HLa.out.keep1 hKx hrb7)
                     have cpb := HBb.out.ptr.cell 0 rfl
                     have hob := HBb.out.out; have o0 := hob.cell 0 rfl; have o1 := hob.cell 1 rfl; have o2 := hob.cell 2 rfl; have o3 := hob.cell 3 rfl; have o4 := hob.cell 4 rfl; have p0 := hob.free 0 (by simp [V5]); have p1 := hob.free 1 (by simp [V5]); have p2 := hob.free 2 (by simp [V5]); have p3 := hob.free 3 (by simp [V5]); have p4 := hob.free 4 (by simp [V5]); clear hob; have HCA := Lib.hid hcase; clear hcase
                     clear hRx hKx))
                refine v_fin rfl HRb.out HBb.out hdd hd hrb ?_
                intro wq hRq hKq hsame
                rcases HCA.out with ⟨rfl, hn⟩ | ⟨rfl, hn⟩
                · rw [hn] at hq; rw [← hq]; exact ⟨none, 0, 0, rfl, FoAt.nil _ _, ⟨hRq, numTo_end hat⟩, hKq⟩
                · rw [hn] at hq; rw [← hq]; exact ⟨_, _, _, _, _, _, _, rfl, ⟨_, hRq, numTo_end hat⟩, hKq⟩
            · rw [if_pos hk] at hq
              have hat := hasM_end (t := ⟨#[38, 110, 105, 108]⟩) ha hk
              replace hat : a + 4 ≤ S.size := hat
              have HT := Lib.hid (hasT (t := ⟨#[38, 110, 105, 108]⟩) HR4.out ha hS (by decide) hk)
              go_wp2_with (first
                | (go_at_call 63; (with_reducible refine HT.out.mono ?_); rintro e v1 ⟨rfl, hRx, hKx⟩
                   have hRx : Rdr v1 rb S (a + 4) d false := hRx
                   have HRa := Lib.hid hRx
                   have HBa := Lib.hid (HB4.out.keep hKx hrb)
                   have HLa := Lib.hid (HL4.out.keep1 hKx hrb7)
                   have cpa := HBa.out.ptr.cell 0 rfl
                   have hob := HBa.out.out; have o0 := hob.cell 0 rfl; have o1 := hob.cell 1 rfl; have o2 := hob.cell 2 rfl; have o3 := hob.cell 3 rfl; have o4 := hob.cell 4 rfl; have p0 := hob.free 0 (by simp [V5]); have p1 := hob.free 1 (by simp [V5]); have p2 := hob.free 2 (by simp [V5]); have p3 := hob.free 3 (by simp [V5]); have p4 := hob.free 4 (by simp [V5]); clear hob
                   clear hRx hKx))
              refine v_fin rfl HRa.out HBa.out hdd hd hrb ?_
              intro wq hRq hKq hsame
              rw [← hq]; exact ⟨none, 0, 0, rfl, FoAt.nil _ _, ⟨hRq, hat⟩, hKq⟩
          · rw [if_pos hk] at hq
            have hat := hasM_end (t := ⟨#[123, 125]⟩) ha hk
            replace hat : a + 2 ≤ S.size := hat
            have HT := Lib.hid (hasT (t := ⟨#[123, 125]⟩) HR3.out ha hS (by decide) hk)
            go_wp2_with (first
              | (go_at_call 63; (with_reducible refine HT.out.mono ?_); rintro e v1 ⟨rfl, hRx, hKx⟩
                 have hRx : Rdr v1 rb S (a + 2) d false := hRx
                 have HRa := Lib.hid hRx
                 have HBa := Lib.hid (HB3.out.keep hKx hrb)
                 have HLa := Lib.hid (HL3.out.keep1 hKx hrb7)
                 have cpa := HBa.out.ptr.cell 0 rfl
                 have hob := HBa.out.out; have o0 := hob.cell 0 rfl; have o1 := hob.cell 1 rfl; have o2 := hob.cell 2 rfl; have o3 := hob.cell 3 rfl; have o4 := hob.cell 4 rfl; have p0 := hob.free 0 (by simp [V5]); have p1 := hob.free 1 (by simp [V5]); have p2 := hob.free 2 (by simp [V5]); have p3 := hob.free 3 (by simp [V5]); have p4 := hob.free 4 (by simp [V5]); clear hob
                 clear hRx hKx))
            refine v_fin rfl HRa.out HBa.out hdd hd hrb ?_
            intro wq hRq hKq hsame
            rw [← hq]; exact ⟨none, 0, 0, rfl, FoAt.nil _ _, ⟨hRq, hat⟩, hKq⟩
        · rw [if_pos hk] at hq
          have hat := hasM_end (t := ⟨#[102, 97, 108, 115, 101]⟩) ha hk
          replace hat : a + 5 ≤ S.size := hat
          have HT := Lib.hid (hasT (t := ⟨#[102, 97, 108, 115, 101]⟩) HR2.out ha hS (by decide) hk)
          go_wp2_with (first
            | (go_at_call 63; (with_reducible refine HT.out.mono ?_); rintro e v1 ⟨rfl, hRx, hKx⟩
               have hRx : Rdr v1 rb S (a + 5) d false := hRx
               have HRa := Lib.hid hRx
               have HBa := Lib.hid (HB2.out.keep hKx hrb)
               have HLa := Lib.hid (HL2.out.keep1 hKx hrb7)
               have cpa := HBa.out.ptr.cell 0 rfl
               have hob := HBa.out.out; have o0 := hob.cell 0 rfl; have o1 := hob.cell 1 rfl; have o2 := hob.cell 2 rfl; have o3 := hob.cell 3 rfl; have o4 := hob.cell 4 rfl; have p0 := hob.free 0 (by simp [V5]); have p1 := hob.free 1 (by simp [V5]); have p2 := hob.free 2 (by simp [V5]); have p3 := hob.free 3 (by simp [V5]); have p4 := hob.free 4 (by simp [V5]); clear hob
               clear hRx hKx))
          refine v_fin rfl HRa.out HBa.out hdd hd hrb ?_
          intro wq hRq hKq hsame
          rw [← hq]; exact ⟨none, 0, 0, rfl, FoAt.nil _ _, ⟨hRq, hat⟩, hKq⟩
      · rw [if_pos hk] at hq
        have hat := hasM_end (t := ⟨#[116, 114, 117, 101]⟩) ha hk
        replace hat : a + 4 ≤ S.size := hat
        have HT := Lib.hid (hasT (t := ⟨#[116, 114, 117, 101]⟩) HR1.out ha hS (by decide) hk)
        go_wp2_with (first
          | (go_at_call 63; (with_reducible refine HT.out.mono ?_); rintro e v1 ⟨rfl, hRx, hKx⟩
             have hRx : Rdr v1 rb S (a + 4) d false := hRx
             have HRa := Lib.hid hRx
             have HBa := Lib.hid (HB1.out.keep hKx hrb)
             have HLa := Lib.hid (HL1.out.keep1 hKx hrb7)
             have cpa := HBa.out.ptr.cell 0 rfl
             have hob := HBa.out.out; have o0 := hob.cell 0 rfl; have o1 := hob.cell 1 rfl; have o2 := hob.cell 2 rfl; have o3 := hob.cell 3 rfl; have o4 := hob.cell 4 rfl; have p0 := hob.free 0 (by simp [V5]); have p1 := hob.free 1 (by simp [V5]); have p2 := hob.free 2 (by simp [V5]); have p3 := hob.free 3 (by simp [V5]); have p4 := hob.free 4 (by simp [V5]); clear hob
             clear hRx hKx))
        refine v_fin rfl HRa.out HBa.out hdd hd hrb ?_
        intro wq hRq hKq hsame
        rw [← hq]; exact ⟨none, 0, 0, rfl, FoAt.nil _ _, ⟨hRq, hat⟩, hKq⟩
    · rw [if_pos hk] at hq
      have hat := hasM_end (t := ⟨#[110, 105, 108]⟩) ha hk
      replace hat : a + 3 ≤ S.size := hat
      have HT := Lib.hid (hasT (t := ⟨#[110, 105, 108]⟩) HR0.out ha hS (by decide) hk)
      go_wp2_with (first
        | (go_at_call 63; (with_reducible refine HT.out.mono ?_); rintro e v1 ⟨rfl, hRx, hKx⟩
           have hRx : Rdr v1 rb S (a + 3) d false := hRx
           have HRa := Lib.hid hRx
           have HBa := Lib.hid (HB0.out.keep hKx hrb)
           have HLa := Lib.hid (HL0.out.keep1 hKx hrb7)
           have cpa := HBa.out.ptr.cell 0 rfl
           have hob := HBa.out.out; have o0 := hob.cell 0 rfl; have o1 := hob.cell 1 rfl; have o2 := hob.cell 2 rfl; have o3 := hob.cell 3 rfl; have o4 := hob.cell 4 rfl; have p0 := hob.free 0 (by simp [V5]); have p1 := hob.free 1 (by simp [V5]); have p2 := hob.free 2 (by simp [V5]); have p3 := hob.free 3 (by simp [V5]); have p4 := hob.free 4 (by simp [V5]); clear hob
           clear hRx hKx))
      refine v_fin rfl HRa.out HBa.out hdd hd hrb ?_
      intro wq hRq hKq hsame
      rw [← hq]; exact ⟨none, 0, 0, rfl, FoAt.nil _ _, ⟨hRq, hat⟩, hKq⟩

theorem valueAll {S : ByteArray} (hS : S.size ≤ 1000000000000) (f : Nat) : VOK S f := by
  induction f using Nat.strongRecOn with
  | _ f ih =>
    cases f with
    | zero => intro rb a deep w _ _ _ _ _ ho; exact absurd (by rw [valueM]) ho
    | succ f => exact valueN hS (rowN hS (fun g hg => ih g (by omega)) valueB)
end Go.Proofs.YtofpdhkdnbnobaaDoor
