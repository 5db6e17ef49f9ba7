import Derived.Test.YtoninfccmonaiaaAskPlain
import Derived.Outline
namespace Go.Proofs.Ytoninfccmonaiaa
open Go.RowKit

def delGone (now : Int) : List (Int × Value) → List Ask → List (Int × Value)
  | m, [] => m
  | m, a :: r => delGone now (if lateB a now then delL a.1 m else m) r
theorem look_delGone (now : Int) (k : Int) : ∀ {l : List Ask} {m : List (Int × Value)}, (m.map (·.1)).Nodup → lookL k (delGone now m l) = if ∃ a ∈ l, a.1 = k ∧ lateB a now = true then none else lookL k m
  | [], m, _ => by simp [delGone]
  | a :: r, m, h => by
    rw [delGone]
    cases hl : lateB a now with
    | false =>
      simp only [Bool.false_eq_true, if_false, look_delGone now k h, List.mem_cons, exists_eq_or_imp, hl, and_false, false_or]
    | true =>
      simp only [if_true, look_delGone now k (nodup_del h), List.mem_cons, exists_eq_or_imp, hl, and_true]
      by_cases e : a.1 = k
      · simp only [e, true_or, if_true]
        split
        · rfl
        · rw [lookL_del h, if_pos rfl]
      · simp only [e, false_or]
        have e2 : ¬ k = a.1 := fun x => e x.symm
        rw [lookL_del h]
        simp only [e2, if_false]
theorem plain_gone (now : Int) {l : List Ask} (h : (Keys l).Nodup) : l.filter (inM (delGone now (putAll [] l) l)) = l.filter (stayB now) := by
  refine List.filter_congr (fun y hm => ?_)
  unfold inM
  rw [look_delGone now y.1 (nodup_putAll (by simp)), look_putAll_in h hm]
  unfold stayB
  cases hl : lateB y now with
  | true => rw [if_pos ⟨y, hm, rfl, hl⟩]; rfl
  | false =>
    rw [if_neg (fun ⟨a, ha, he, hla⟩ => by have := key_one h ha hm he; subst this; rw [hl] at hla; cases hla)]
    rfl

set_option maxHeartbeats 4000000 in
set_option maxRecDepth 100000 in
theorem expN (next : Int) (l : List Ask) (a : Option Addr) (n cap : Nat) (now : Int) (w : World) (h : Asks w a n cap l) (hn : n ≤ 100000) (hnd : (Keys l).Nodup) :
    Calls Try.prog 23 #[.agg #[.int .i64 next, .slice a n cap], .int .i64 now] w (StGone w next (l.filter (stayB now)) (l.filter (stayB now)).length (l.filter (goneB now)) (l.filter (goneB now)).length) := by
  obtain ⟨i0, hi, hy0, hy1, hy2⟩ := info_parts Try.info53
  have HPL := Lib.hid (plain_gone now hnd); clear hnd
  have hlen := h.len
  have HL := Lib.hid hlen; clear hlen
  obtain ⟨hcap, hmax⟩ := h.bounds
  have hat := fun k (hk : k < n) => h.at hk
  have HAT := Lib.hid hat; clear hat
  have H := Lib.hid h; clear h
  go_enter Try.func23, Try.ntmps23
  have HX := Lib.hid ((Box.new w next a n cap 37).later ((Below.refl _ _).alloc (Nat.le_refl _) (Obj.cells #[Value.int .i64 0, Value.slice none 0 0] 37)))
  have HT := Lib.hid (Two.new (w.alloc (Obj.cells #[Value.int .i64 next, Value.slice a n cap] 37)) (.int .i64 0) (.slice none 0 0) 37)
  simp only [World.size_alloc] at HT
  go_wp2_with fail
  refine (waitingN next l a n cap _ (H.out.below HX.out.below)).mono ?_
  rintro e w1 ⟨r, rfl, hm, hr, hb1⟩
  have hs1 := hb1.size
  simp only [World.size_alloc] at hr hs1
  have HX1 := Lib.hid (HX.out.later hb1)
  have HT1 := Lib.hid (HT.out.later hb1)
  have hrl := hm.lt
  have HM := Lib.hid hm; clear hm hb1 HX HT
  obtain ⟨d0, d1, dl, _⟩ := HX1.out
  have HMX := Lib.hid (AskMap.all (l := l) AskMap.nil)
  have HND := Lib.hid (nodup_putAll (l := l) (m := []) (by simp))
  go_wp2
  clear d0 d1 dl
  go_loopw [7, 15] (fun s t wr => ∃ (k : Nat) (b1 : Option Addr) (c1 : Nat) (m : List (Int × Value)), k ≤ n ∧ t = .int .i64 k ∧ s = .slice b1 ((l.take k).filter (goneB now)).length c1 ∧ Row w1.heap.size wr 3 b1 ((l.take k).filter (goneB now)).length c1 (askC ((l.take k).filter (goneB now))) ∧ MapAt wr r m ∧ AskMap m ∧ delGone now (putAll [] l) l = delGone now m (l.drop k) ∧ Box w next a n cap wr ∧ Two wr (w.heap.size + 1) (.int .i64 0) (.slice none 0 0) ∧ w1.heap.size ≤ wr.heap.size) (fun _ t _ => n - (intOf t).toNat)
  case atStart => exact ⟨0, none, 0, _, Nat.zero_le _, rfl, rfl, Row.nil _ _ _, HM.out, HMX.out, rfl, HX1.out, HT1.out, Nat.le_refl _⟩
  case round =>
    clear HX1 HT1 HM HMX HND
    obtain ⟨k, b1, c1, m, hk, rfl, rfl, hrow, hm, ham, hdg, hbw, htw, hsz⟩ := hrel
    have HBW := Lib.hid hbw
    obtain ⟨e0, e1, ds, hbb⟩ := hbw
    clear hbb
    have HTW := Lib.hid htw
    have HM := Lib.hid hm; clear hm
    have HAM := Lib.hid ham; clear ham
    have HDG := Lib.hid hdg; clear hdg
    have HR := Lib.hid hrow; clear hrow
    have hk1 := filter_take_le (goneB now) l k
    by_cases hlt : k < n
    · clear htw
      obtain ⟨b, off, rfl, hb, g0, g1, g2⟩ := HAT.out k hlt
      have f0 := cellAt HBW.out.below g0
      have f1 := cellAt HBW.out.below g1
      have f2 := cellAt HBW.out.below g2
      clear g0 g1 g2
      have hta := take_at l k (by rw [HL.out]; exact hlt)
      have hdr := drop_at l k (by rw [HL.out]; exact hlt)
      generalize l[k]?.getD noAsk = x at f0 f1 f2 hta hdr
      obtain ⟨xc, xu, xt⟩ := x
      have HTA := Lib.hid hta; clear hta
      have HDR := Lib.hid hdr; clear hdr
      obtain ⟨ms, hms⟩ : ∃ ms, (l.take k).filter (goneB now) = ms := ⟨_, rfl⟩
      rw [hms] at HR hk1 ⊢
      have HMS := Lib.hid hms; clear hms
      go_wp2_with fail
      refine (lateN (xc, xu, xt) now _).mono ?_
      rintro e w2 ⟨rfl, hb2⟩
      have HW := Lib.hid (((Below.refl _ _).alloc (Nat.le_refl _) _).trans (hb2.mono (by simp)) : Below wr.heap.size wr w2)
      have hsz2 := hb2.size
      simp only [World.size_alloc] at hsz2
      have x0 := cellAt (v := .int .i64 xc) (b := wr.heap.size) (o := 0) hb2 (by simp)
      have x1 := cellAt (v := .int .i64 xu) (b := wr.heap.size) (o := 1) hb2 (by simp)
      have x2 := cellAt (v := .string xt) (b := wr.heap.size) (o := 2) hb2 (by simp)
      clear hb2
      have HT2 := Lib.hid (HTW.out.later HW.out)
      have HR2 := Lib.hid (HR.out.below HW.out)
      have HX2 := Lib.hid (HBW.out.later HW.out)
      have HM2 := Lib.hid (HM.out.below HW.out)
      cases hlt' : lateB (xc, xu, xt) now
      · have hq : goneB now (xc, xu, xt) = false := by simp [goneB, hlt']
        have HQ := Lib.hid hq; clear hq
        have HLT := Lib.hid hlt'; clear hlt'
        go_wp2
        go_roundw
        case rel =>
          refine ⟨k + 1, b1, c1, m, by omega, by go_num, ?_, ?_, HM2.out, HAM.out, ?_, HX2.out, HT2.out, by omega⟩
          · rw [HTA.out, filter_snoc_f HQ.out, HMS.out]
          · rw [HTA.out, filter_snoc_f HQ.out, HMS.out]; exact HR2.out
          · rw [HDG.out, HDR.out, delGone, HLT.out]; simp
        case measure => simp [intOf]; omega
      · have hq : goneB now (xc, xu, xt) = true := by simp [goneB, hlt']
        have HQ := Lib.hid hq; clear hq
        have HLT := Lib.hid hlt'; clear hlt'
        have hne : some r ≠ blockOf b1 := fun e => by have := HR.out.lt _ e.symm; omega
        have HNE := Lib.hid hne; clear hne
        have hnw : some wr.heap.size ≠ blockOf b1 := fun e => by have := HR.out.lt _ e.symm; omega
        have HNW := Lib.hid hnw; clear hnw
        go_wp2_with (first | (at_builtin; go_must (refine wpList_append_row rfl _ _ 35 35 rfl 53 i0 (.agg #[.int .i64 0, .int .i64 0, .string ByteArray.empty]) 3 32 Try.underlying35 hi hy0 hy1 hy2 rfl rfl (HR2.out.alloc _) 1 (askV (xc, xu, xt)) (Src.oneRow Try.underlying35 (askV (xc, xu, xt)) _ 53 rfl rfl rfl (askV_one _)) (by unfold maxLen; omega) (by omega) (by simp; omega) ?_; intro a' c' w' hrow' hgr' hbk'; have HR' := Lib.hid hrow'; have HG' := Lib.hid hgr'; have HM3 := Lib.hid ((HM2.out.alloc (Obj.cells #[Value.int .i64 xc, Value.int .i64 xu, Value.string xt] 53)).kept hgr' HNE.out); have y0 := cellGr hgr' (cellNew _ x0) HNW.out; have y1 := cellGr hgr' (cellNew _ x1) HNW.out; have y2 := cellGr hgr' (cellNew _ x2) HNW.out; clear hrow' hgr' hbk' x0 x1 x2)) | (at_delete; go_must (refine wpList_delete_L rfl _ _ 65 2 53 rfl Try.underlying65 Try.underlying2 rfl HM3.out rfl ?_); intro w4 hm4 hg4; have HM4 := Lib.hid hm4; have HG4 := Lib.hid hg4; clear hm4 hg4))
        have hB : Below (w.heap.size + 2) w2 w' := ((Below.refl _ _).alloc (by omega) _).grown HG'.out (by simp; omega) (fun j hj => by have := HR.out.lt _ hj; omega)
        have hs3 := hB.size
        have hB2 : Below (w.heap.size + 2) w2 w4 := hB.grown HG4.out (by omega) (fun j hj => by cases hj; omega)
        have hs4 := hB2.size
        go_roundw
        case rel =>
          refine ⟨k + 1, a', c', _, by omega, by go_num, ?_, ?_, HM4.out, HAM.out.del HM.out.2 xc, ?_, HX2.out.laterF (by omega) hB2, HT2.out.laterF (by omega) hB2, by omega⟩
          · rw [HTA.out, filter_snoc_t HQ.out, HMS.out]; simp
          · rw [HTA.out, filter_snoc_t HQ.out, HMS.out, ← askC_snoc]
            have := HR'.out.kept HG4.out (.inl (fun e => by have := HR'.out.lt _ e; omega))
            simpa using this
          · rw [HDG.out, HDR.out, delGone, HLT.out]; simp
        case measure => simp [intOf]; omega
    · obtain rfl : k = n := by omega
      have hl2 : l.take k = l := List.take_of_length_le (by rw [HL.out]; omega)
      have hl3 : l.drop k = [] := List.drop_of_length_le (by rw [HL.out]; omega)
      have hmm : delGone now (putAll [] l) l = m := by rw [HDG.out, hl3]; rfl
      rw [hl2] at HR ⊢
      rw [hmm] at HPL
      clear hl2 hl3 hmm htw
      go_wp2_with fail
      refine (listedN next l a k cap _ (H.out.below HBW.out.below) hn r _ HM.out HAM.out).mono ?_
      rintro e w3 ⟨a3, c3, rfl, hr3, hb3⟩
      have HX3 := Lib.hid (HBW.out.later hb3)
      have HT3 := Lib.hid (HTW.out.later hb3)
      obtain ⟨q0, q1, q2, q3⟩ := HT3.out
      have HR3 := Lib.hid hr3
      have HS3 := Lib.hid (HR.out.below hb3)
      clear hr3 hb3
      go_wp2
      have hT := (HT3.out.set0 (.int .i64 next)).set1 (.slice a3 (l.filter (inM m)).length c3)
      refine bodyPost_ret (v := .tuple #[.agg #[.int .i64 next, .slice a3 (l.filter (inM m)).length c3], .slice b1 (l.filter (goneB now)).length c1]) (by simp [results, Try.f23, go_sem, hT.c0, hT.c1]) rfl ?_
      refine ⟨a3, c3, b1, c1, by rw [HPL.out], ?_, ((HS3.out.put (p := ⟨w.heap.size + 1, 0, none⟩) (by simp; omega) _).put (p := ⟨w.heap.size + 1, 1, none⟩) (by simp; omega) _).mono (by omega), (HX3.out.below.setCell (by simp) _).setCell (by simp) _⟩
      rw [← HPL.out]
      exact ((HR3.out.put (p := ⟨w.heap.size + 1, 0, none⟩) (by simp; omega) _).put (p := ⟨w.heap.size + 1, 1, none⟩) (by simp; omega) _).mono (by omega)
end Go.Proofs.Ytoninfccmonaiaa
