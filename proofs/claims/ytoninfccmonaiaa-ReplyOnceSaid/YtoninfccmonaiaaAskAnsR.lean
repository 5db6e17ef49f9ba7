import Derived.Test.YtoninfccmonaiaaAskListed
import Derived.Test.YtoninfccmonaiaaAskSame
import Derived.Outline
namespace Go.Proofs.Ytoninfccmonaiaa
open Go.RowKit

theorem bytes_beq (a b : ByteArray) : (a.toList == b.toList) = decide (a = b) := by
  by_cases h : a = b
  · simp [h]
  · simp [h, bytes_ne h]

def keepB (corr : Int) (topic : ByteArray) (a : Ask) : Bool := !(decide (a.1 = corr) && decide (a.2.2 = topic))
def errF (corr : Int) (topic : ByteArray) (now : Int) : Int → List Ask → Int
  | e, [] => e
  | e, a :: r => if keepB corr topic a then errF corr topic now e r else errF corr topic now (if lateB a now then 170 else 0) r

set_option maxHeartbeats 4000000 in
set_option maxRecDepth 100000 in
theorem ansR (next : Int) (l : List Ask) (a : Option Addr) (n cap : Nat) (corr : Int) (topic : ByteArray) (now : Int) (w : World) (h : Asks w a n cap l) (hn : n ≤ 100000) :
    Calls Try.prog 22 #[.agg #[.int .i64 next, .slice a n cap], .int .i64 corr, .string topic, .int .i64 now] w (StErr w next (l.filter (keepB corr topic)) (l.filter (keepB corr topic)).length (errF corr topic now 230 l)) := by
  obtain ⟨i0, hi, hy0, hy1, hy2⟩ := info_parts Try.info53
  have hlen := h.len
  have HL := Lib.hid hlen; clear hlen
  obtain ⟨hcap, hmax⟩ := h.bounds
  have hat := fun k (hk : k < n) => h.at hk
  have HAT := Lib.hid hat; clear hat h
  go_enter Try.func22, Try.ntmps22
  go_wp2
  have HX := Lib.hid (((Box.new w next a n cap 37).later ((Below.refl _ _).alloc (Nat.le_refl _) (Obj.cells #[Value.int .i64 0, Value.slice none 0 0] 37))).later ((Below.refl _ _).alloc (Nat.le_refl _) (Obj.cells #[Value.int .i64 next, Value.slice none 0 0] 37)))
  have HT := Lib.hid ((Two.new (w.alloc (Obj.cells #[Value.int .i64 next, Value.slice a n cap] 37)) (.int .i64 0) (.slice none 0 0) 37).alloc (Obj.cells #[Value.int .i64 next, Value.slice none 0 0] 37))
  have HU := Lib.hid (Two.new ((w.alloc (Obj.cells #[Value.int .i64 next, Value.slice a n cap] 37)).alloc (Obj.cells #[Value.int .i64 0, Value.slice none 0 0] 37)) (.int .i64 next) (.slice none 0 0) 37)
  simp only [World.size_alloc] at HT HU
  go_loopw [11, 20] (fun s t wr => ∃ (k : Nat) (a1 : Option Addr) (c1 : Nat) (er : Int), k ≤ n ∧ t = .int .i64 k ∧ s = .int .i64 er ∧ errF corr topic now 230 l = errF corr topic now er (l.drop k) ∧ Row (w.heap.size + 3) wr 3 a1 ((l.take k).filter (keepB corr topic)).length c1 (askC ((l.take k).filter (keepB corr topic))) ∧ Box w next a n cap wr ∧ Two wr (w.heap.size + 1) (.int .i64 0) (.slice none 0 0) ∧ Two wr (w.heap.size + 2) (.int .i64 next) (.slice a1 ((l.take k).filter (keepB corr topic)).length c1)) (fun _ t _ => n - (intOf t).toNat)
  case atStart => exact ⟨0, none, 0, 230, Nat.zero_le _, rfl, rfl, rfl, Row.nil _ _ _, HX.out, HT.out, HU.out⟩
  case round =>
    clear HX HT HU
    obtain ⟨k, a1, c1, er, hk, rfl, rfl, heq, hrow, hbw, htw, huw⟩ := hrel
    have HBW := Lib.hid hbw
    obtain ⟨d0, d1, ds, hbb⟩ := hbw
    clear hbb
    have HEQ := Lib.hid heq; clear heq
    have HTW := Lib.hid htw
    have hs2 := huw.lt
    have HUW := Lib.hid huw; clear huw
    have HR := Lib.hid hrow; clear hrow
    have hk1 := filter_take_le (keepB corr topic) l k
    by_cases hlt : k < n
    · obtain ⟨b, off, rfl, hb, e0, e1, e2⟩ := HAT.out k hlt
      have f0 := cellAt HBW.out.below e0
      have f1 := cellAt HBW.out.below e1
      have f2 := cellAt HBW.out.below e2
      clear e0 e1 e2 htw
      have hta := take_at l k (by rw [HL.out]; exact hlt)
      have hdr := drop_at l k (by rw [HL.out]; exact hlt)
      generalize l[k]?.getD noAsk = x at f0 f1 f2 hta hdr
      obtain ⟨xc, xu, xt⟩ := x
      have HTA := Lib.hid hta; clear hta
      have HDR := Lib.hid hdr; clear hdr
      obtain ⟨ls, hls⟩ : ∃ ls, (l.take k).filter (keepB corr topic) = ls := ⟨_, rfl⟩
      rw [hls] at HR hk1 HUW
      have HLS := Lib.hid hls; clear hls
      obtain ⟨v0, v1, v2, v3⟩ := HUW.out
      have hn9 := bytes_beq xt topic
      by_cases hc : xc = corr
      · have hcb : (xc != corr) = false := by simp [hc]
        by_cases ht : xt = topic
        · have hd : decide (xt = topic) = true := by simp [ht]
          rw [hd] at hn9
          have hkb : keepB corr topic (xc, xu, xt) = false := by simp [keepB, hc, ht]
          have HKB := Lib.hid hkb; clear hkb hc hd ht
          go_wp2_with fail
          refine (lateR (xc, xu, xt) now _).mono ?_
          rintro e w1 ⟨rfl, hb1⟩
          have HB1 := Lib.hid hb1; clear hb1
          cases hlt' : lateB (xc, xu, xt) now
          · go_wp2
            go_roundw
            case rel =>
              refine ⟨k + 1, a1, c1, _, by omega, by go_num, rfl, ?_, ?_, ?_, ?_, ?_⟩
              · rw [HEQ.out, HDR.out, errF, HKB.out, hlt']; simp
              · rw [HTA.out, filter_snoc_f HKB.out, HLS.out]; exact (HR.out.alloc _).below HB1.out
              · exact HBW.out.later (((Below.refl _ _).alloc (Nat.le_refl _) _).trans (HB1.out.mono (by simp)))
              · exact (HTW.out.alloc _).later HB1.out
              · rw [HTA.out, filter_snoc_f HKB.out, HLS.out]; exact (HUW.out.alloc _).later HB1.out
            case measure => simp [intOf]; omega
          · go_wp2
            go_roundw
            case rel =>
              refine ⟨k + 1, a1, c1, _, by omega, by go_num, rfl, ?_, ?_, ?_, ?_, ?_⟩
              · rw [HEQ.out, HDR.out, errF, HKB.out, hlt']; simp
              · rw [HTA.out, filter_snoc_f HKB.out, HLS.out]; exact (HR.out.alloc _).below HB1.out
              · exact HBW.out.later (((Below.refl _ _).alloc (Nat.le_refl _) _).trans (HB1.out.mono (by simp)))
              · exact (HTW.out.alloc _).later HB1.out
              · rw [HTA.out, filter_snoc_f HKB.out, HLS.out]; exact (HUW.out.alloc _).later HB1.out
            case measure => simp [intOf]; omega
        · have hd : decide (xt = topic) = false := by simp [ht]
          rw [hd] at hn9
          have hkb : keepB corr topic (xc, xu, xt) = true := by simp [keepB, ht]
          clear hd ht hc
          go_wp2_with (at_builtin; go_must (refine wpList_append_row rfl _ _ 35 35 rfl 53 i0 (.agg #[.int .i64 0, .int .i64 0, .string ByteArray.empty]) 3 32 Try.underlying35 hi hy0 hy1 hy2 rfl rfl ((HR.out.alloc _).alloc _) 1 (askV (xc, xu, xt)) (Src.oneRow Try.underlying35 (askV (xc, xu, xt)) _ 53 (by simp) rfl rfl (askV_one _)) (by unfold maxLen; omega) (by omega) (by simp; omega) ?_; intro a' c' w' hrow' hgr' _; have HR' := Lib.hid hrow'; have HG' := Lib.hid hgr'; have HUU := Lib.hid (((HUW.out.alloc _).alloc _).gr hgr' (fun e => by have := HR.out.lt _ e.symm; omega)); have uu := HUU.out; obtain ⟨u0, u1, u2, u3⟩ := uu; clear hrow' hgr'))
          have hne := HR.out.lt
          have hB : Below (w.heap.size + 3) wr w' := (((Below.refl _ _).alloc (by omega) _).alloc (by simp; omega) _).grown HG'.out (by simp; omega) (fun j hj => (hne j hj).1)
          have hB2 : Below (w.heap.size + 2) wr (w'.setCell ⟨w.heap.size + 2, 1, none⟩ (.slice a' (ls.length + 1) c')) := Below.setCell (B := w.heap.size + 2) (p := ⟨w.heap.size + 2, 1, none⟩) (hB.mono (by omega)) (Nat.le_refl _) _
          go_roundw
          case rel =>
            refine ⟨k + 1, a', c', _, by omega, by go_num, rfl, ?_, ?_, HBW.out.laterF (by omega) (B := w.heap.size + 2) hB2, HTW.out.laterF (by omega) hB2, ?_⟩
            · rw [HEQ.out, HDR.out, errF, if_pos hkb]
            · rw [HTA.out, filter_snoc_t hkb, HLS.out, ← askC_snoc]; simpa using HR'.out.put (p := ⟨w.heap.size + 2, 1, none⟩) (by simp) _
            · rw [HTA.out, filter_snoc_t hkb, HLS.out]; simpa using HUU.out.set1 _
          case measure => simp [intOf]; omega
      · have hcb : (xc != corr) = true := by simp [hc]
        have hkb : keepB corr topic (xc, xu, xt) = true := by simp [keepB, hc]
        clear hc
        go_wp2_with (at_builtin; go_must (refine wpList_append_row rfl _ _ 35 35 rfl 53 i0 (.agg #[.int .i64 0, .int .i64 0, .string ByteArray.empty]) 3 32 Try.underlying35 hi hy0 hy1 hy2 rfl rfl ((HR.out.alloc _).alloc _) 1 (askV (xc, xu, xt)) (Src.oneRow Try.underlying35 (askV (xc, xu, xt)) _ 53 (by simp) rfl rfl (askV_one _)) (by unfold maxLen; omega) (by omega) (by simp; omega) ?_; intro a' c' w' hrow' hgr' _; have HR' := Lib.hid hrow'; have HG' := Lib.hid hgr'; have HUU := Lib.hid (((HUW.out.alloc _).alloc _).gr hgr' (fun e => by have := HR.out.lt _ e.symm; omega)); have uu := HUU.out; obtain ⟨u0, u1, u2, u3⟩ := uu; clear hrow' hgr'))
        have hne := HR.out.lt
        have hB : Below (w.heap.size + 3) wr w' := (((Below.refl _ _).alloc (by omega) _).alloc (by simp; omega) _).grown HG'.out (by simp; omega) (fun j hj => (hne j hj).1)
        have hB2 : Below (w.heap.size + 2) wr (w'.setCell ⟨w.heap.size + 2, 1, none⟩ (.slice a' (ls.length + 1) c')) := Below.setCell (B := w.heap.size + 2) (p := ⟨w.heap.size + 2, 1, none⟩) (hB.mono (by omega)) (Nat.le_refl _) _
        go_roundw
        case rel =>
          refine ⟨k + 1, a', c', _, by omega, by go_num, rfl, ?_, ?_, HBW.out.laterF (by omega) (B := w.heap.size + 2) hB2, HTW.out.laterF (by omega) hB2, ?_⟩
          · rw [HEQ.out, HDR.out, errF, if_pos hkb]
          · rw [HTA.out, filter_snoc_t hkb, HLS.out, ← askC_snoc]; simpa using HR'.out.put (p := ⟨w.heap.size + 2, 1, none⟩) (by simp) _
          · rw [HTA.out, filter_snoc_t hkb, HLS.out]; simpa using HUU.out.set1 _
        case measure => simp [intOf]; omega
    · obtain rfl : k = n := by omega
      have hl2 : l.take k = l := List.take_of_length_le (by rw [HL.out]; omega)
      have hl3 : l.drop k = [] := List.drop_of_length_le (by rw [HL.out]; omega)
      have hE : errF corr topic now 230 l = er := by rw [HEQ.out, hl3]; rfl
      rw [hl2] at HR hk1 HUW
      have HE := Lib.hid hE
      clear hE hl2 hl3
      obtain ⟨q0, q1, q2, q3⟩ := htw
      obtain ⟨v0, v1, v2, v3⟩ := HUW.out
      go_wp2
      have hT := (HTW.out.set0 (.int .i64 next)).set1 (.slice a1 (l.filter (keepB corr topic)).length c1)
      refine bodyPost_ret (v := .tuple #[.agg #[.int .i64 next, .slice a1 (l.filter (keepB corr topic)).length c1], .int .i64 er]) (by simp [results, Try.f22, go_sem, hT.c0, hT.c1]) rfl ?_
      exact ⟨a1, c1, by rw [HE.out], ((HR.out.put (p := ⟨w.heap.size + 1, 0, none⟩) (by simp) _).put (p := ⟨w.heap.size + 1, 1, none⟩) (by simp) _).mono (by omega), (HBW.out.below.setCell (by simp) _).setCell (by simp) _⟩
end Go.Proofs.Ytoninfccmonaiaa
