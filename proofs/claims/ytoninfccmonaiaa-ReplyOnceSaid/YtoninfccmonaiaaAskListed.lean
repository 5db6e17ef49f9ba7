import Derived.Test.YtoninfccmonaiaaAskMaps
import Derived.Outline
namespace Go.Proofs.Ytoninfccmonaiaa
open Go.RowKit

def AskMap (m : List (Int × Value)) : Prop := ∀ k v, lookL k m = some v → ∃ y : Ask, v = askVal y
def inM (m : List (Int × Value)) (a : Ask) : Bool := (lookL a.1 m).isSome

theorem Try.zero53 : ∀ w, (zeroValue 53).run Try.prog w = .ok (.agg #[.int .i64 0, .int .i64 0, .string ByteArray.empty]) w := by
  intro w
  obtain ⟨i0, hi, h0, h1, h2⟩ := info_parts Try.info53
  simp [zeroValue, typeInfo, hi, h0]

theorem filter_snoc_t {p : Ask → Bool} {l : List Ask} {x : Ask} (h : p x = true) : (l ++ [x]).filter p = l.filter p ++ [x] := by simp [h]
theorem filter_snoc_f {p : Ask → Bool} {l : List Ask} {x : Ask} (h : p x = false) : (l ++ [x]).filter p = l.filter p := by simp [h]
theorem filter_take_le (p : Ask → Bool) (l : List Ask) (k : Nat) : ((l.take k).filter p).length ≤ k :=
  Nat.le_trans (List.length_filter_le _ _) (by simp [List.length_take]; omega)

theorem Two.laterF {W W' : World} {b B : Nat} {v0 v1 : Value} (h : Two W b v0 v1) (hB : b < B) (hb : Below B W W') : Two W' b v0 v1 :=
  ⟨(hb.cell (p := ⟨b, 0, none⟩) hB).trans h.c0, (hb.cell (p := ⟨b, 1, none⟩) hB).trans h.c1, (hb.frozen (p := ⟨b, 0, none⟩) hB).trans h.f0, (hb.frozen (p := ⟨b, 1, none⟩) hB).trans h.f1⟩

set_option maxHeartbeats 2000000 in
set_option maxRecDepth 100000 in
theorem listedN (next : Int) (l : List Ask) (a : Option Addr) (n cap : Nat) (w : World) (h : Asks w a n cap l) (hn : n ≤ 100000) (r : Nat) (m : List (Int × Value)) (hm : MapAt w r m) (hmv : AskMap m) :
    Calls Try.prog 30 #[.agg #[.int .i64 next, .slice a n cap], .map (some r)] w (StOut w next (l.filter (inM m)) (l.filter (inM m)).length) := by
  obtain ⟨i0, hi, hy0, hy1, hy2⟩ := info_parts Try.info53
  have hlen := h.len
  have HL := Lib.hid hlen; clear hlen
  obtain ⟨hcap, hmax⟩ := h.bounds
  have hat := fun k (hk : k < n) => h.at hk
  have HAT := Lib.hid hat; clear hat h
  have HM := Lib.hid hm; clear hm
  have HV := Lib.hid hmv; clear hmv
  go_enter Try.func30, Try.ntmps30
  go_wp2
  have HX := Lib.hid ((Box.new w next a n cap 37).later ((Below.refl _ _).alloc (Nat.le_refl _) (Obj.cells #[Value.int .i64 0, Value.slice none 0 0] 37)))
  have HT := Lib.hid (Two.new (w.alloc (Obj.cells #[Value.int .i64 next, Value.slice a n cap] 37)) (.int .i64 0) (.slice none 0 0) 37)
  simp only [World.size_alloc] at HT
  go_loopw [5, 13] (fun s t wr => ∃ (k : Nat) (a1 : Option Addr) (c1 : Nat), k ≤ n ∧ t = .int .i64 k ∧ s = .slice a1 ((l.take k).filter (inM m)).length c1 ∧ Row (w.heap.size + 2) wr 3 a1 ((l.take k).filter (inM m)).length c1 (askC ((l.take k).filter (inM m))) ∧ Box w next a n cap wr ∧ Two wr (w.heap.size + 1) (.int .i64 0) (.slice none 0 0)) (fun _ t _ => n - (intOf t).toNat)
  case atStart => exact ⟨0, none, 0, Nat.zero_le _, rfl, rfl, Row.nil _ _ _, HX.out, HT.out⟩
  case round =>
    clear HX HT
    obtain ⟨k, a1, c1, hk, rfl, rfl, hrow, hbw, htw⟩ := hrel
    have HBW := Lib.hid hbw
    obtain ⟨d0, d1, ds, hbb⟩ := hbw
    have hmw := HM.out.below hbb
    clear hbb
    have HMW := Lib.hid hmw; clear hmw
    have HTW := Lib.hid htw
    have hs2 := htw.lt
    clear htw
    have HR := Lib.hid hrow; clear hrow
    have hk1 := filter_take_le (inM m) l k
    by_cases hlt : k < n
    · obtain ⟨b, off, rfl, hb, e0, e1, e2⟩ := HAT.out k hlt
      have f0 := cellAt HBW.out.below e0
      have f1 := cellAt HBW.out.below e1
      have f2 := cellAt HBW.out.below e2
      clear e0 e1 e2
      have hta := take_at l k (by rw [HL.out]; exact hlt)
      generalize l[k]?.getD noAsk = x at f0 f1 f2 hta
      have HTA := Lib.hid hta; clear hta
      obtain ⟨ls, hls⟩ : ∃ ls, (l.take k).filter (inM m) = ls := ⟨_, rfl⟩
      rw [hls] at HR hk1 ⊢
      cases hq : lookL x.1 m with
      | none =>
        have hf : inM m x = false := by unfold inM; rw [hq]; rfl
        have HQ := Lib.hid hq; clear hq
        have HF := Lib.hid hf; clear hf
        have HLS := Lib.hid hls; clear hls
        go_wp2_with (at_lookup; go_must (refine wpList_lookup_L rfl _ _ 65 true rfl 2 53 Try.underlying65 Try.underlying2 Try.zero53 rfl (HMW.out.alloc _) rfl ?_); simp only [HQ.out, Option.getD_none, Option.isSome_none, if_true])
        go_roundw
        case rel =>
          refine ⟨k + 1, a1, c1, by omega, by go_num, ?_, ?_, ?_, ?_⟩
          · rw [HTA.out, filter_snoc_f HF.out, HLS.out]
          · rw [HTA.out, filter_snoc_f HF.out, HLS.out]; exact (HR.out.alloc _).alloc _
          · exact HBW.out.later (((Below.refl _ _).alloc (Nat.le_refl _) _).alloc (by simp) _)
          · exact (HTW.out.alloc _).alloc _
        case measure => simp [intOf]; omega
      | some v =>
        obtain ⟨y, rfl⟩ := HV.out _ _ hq
        have hf : inM m x = true := by unfold inM; rw [hq]; rfl
        have HQ := Lib.hid hq; clear hq
        have HF := Lib.hid hf; clear hf
        have HLS := Lib.hid hls; clear hls
        go_wp2_with (first | (at_lookup; go_must (refine wpList_lookup_L rfl _ _ 65 true rfl 2 53 Try.underlying65 Try.underlying2 Try.zero53 rfl (HMW.out.alloc _) rfl ?_); simp only [HQ.out, Option.getD_some, Option.isSome_some, if_true, askVal]) | (at_builtin; go_must (refine wpList_append_row rfl _ _ 35 35 rfl 53 i0 (.agg #[.int .i64 0, .int .i64 0, .string ByteArray.empty]) 3 32 Try.underlying35 hi hy0 hy1 hy2 rfl rfl (((HR.out.alloc _).alloc _).alloc _) 1 (askV x) (Src.oneRow Try.underlying35 (askV x) _ 53 (by simp) rfl rfl (askV_one x)) (by unfold maxLen; omega) (by omega) (by simp; omega) ?_; intro a' c' w' hrow' hgr' _; have HR' := Lib.hid hrow'; have HG' := Lib.hid hgr'; clear hrow' hgr')))
        have hne := HR.out.lt
        have hB : Below (w.heap.size + 2) wr w' := ((((Below.refl _ _).alloc (by omega) _).alloc (by simp; omega) _).alloc (by simp; omega) _).grown HG'.out (by simp; omega) (fun j hj => (hne j hj).1)
        go_roundw
        case rel =>
          refine ⟨k + 1, a', c', by omega, by go_num, ?_, ?_, ?_, ?_⟩
          · rw [HTA.out, filter_snoc_t HF.out, HLS.out]; simp
          · rw [HTA.out, filter_snoc_t HF.out, HLS.out, ← askC_snoc]; simpa using HR'.out
          · exact HBW.out.laterF (by omega) hB
          · exact HTW.out.laterF (by omega) hB
        case measure => simp [intOf]; omega
    · obtain rfl : k = n := by omega
      obtain ⟨q0, q1, q2, q3⟩ := HTW.out
      have hl2 : l.take k = l := List.take_of_length_le (by rw [HL.out]; omega)
      rw [hl2] at HR hk1 ⊢
      go_wp2
      have hT := (HTW.out.set0 (.int .i64 next)).set1 (.slice a1 (l.filter (inM m)).length c1)
      refine bodyPost_ret (v := .agg #[.int .i64 next, .slice a1 (l.filter (inM m)).length c1]) (by simp [results, Try.f30, go_sem, hT.c0, hT.c1]) rfl ?_
      exact ⟨a1, c1, rfl, ((HR.out.put (p := ⟨w.heap.size + 1, 0, none⟩) (by simp) _).put (p := ⟨w.heap.size + 1, 1, none⟩) (by simp) _).mono (by omega), (HBW.out.below.setCell (by simp) _).setCell (by simp) _⟩
end Go.Proofs.Ytoninfccmonaiaa
