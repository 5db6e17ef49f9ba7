import Derived.Test.YtoninfccmonaiaaAskListed
import Derived.Outline
namespace Go.Proofs.Ytoninfccmonaiaa
open Go.RowKit

def stayB (now : Int) (a : Ask) : Bool := !(lateB a now)
def goneB (now : Int) (a : Ask) : Bool := lateB a now
/-- two rows share no block -/
def Apart (a b : Option Addr) : Prop := ∀ j, blockOf a = some j → blockOf b ≠ some j
theorem Apart.nil (b : Option Addr) : Apart none b := fun j h => by simp [blockOf] at h
theorem Apart.symm {a b : Option Addr} (h : Apart a b) : Apart b a := fun j hj hk => h j hk hj
theorem Apart.grow {a a' b : Option Addr} {s : Nat} (h : Apart a b) (hk : blockOf a' = blockOf a ∨ blockOf a' = some s) (hb : ∀ j, blockOf b = some j → j < s) : Apart a' b := by
  intro j hj hbj
  rcases hk with e | e
  · exact h j (e ▸ hj) hbj
  · rw [e] at hj; cases hj; exact Nat.lt_irrefl _ (hb _ hbj)
theorem Apart.ne {a b : Option Addr} (h : Apart a b) : blockOf a ≠ blockOf b ∨ blockOf b = none := by
  cases hb : blockOf b with
  | none => exact .inr rfl
  | some j => exact .inl (fun e => h j e hb)

set_option maxHeartbeats 4000000 in
set_option maxRecDepth 100000 in
theorem expR (next : Int) (l : List Ask) (a : Option Addr) (n cap : Nat) (now : Int) (w : World) (h : Asks w a n cap l) (hn : n ≤ 100000) :
    Calls Try.prog 24 #[.agg #[.int .i64 next, .slice a n cap], .int .i64 now] w (StGone w next (l.filter (stayB now)) (l.filter (stayB now)).length (l.filter (goneB now)) (l.filter (goneB now)).length) := by
  obtain ⟨i0, hi, hy0, hy1, hy2⟩ := info_parts Try.info53
  have hlen := h.len
  have HL := Lib.hid hlen; clear hlen
  obtain ⟨hcap, hmax⟩ := h.bounds
  have hat := fun k (hk : k < n) => h.at hk
  have HAT := Lib.hid hat; clear hat h
  go_enter Try.func24, Try.ntmps24
  go_wp2
  have HX := Lib.hid (((Box.new w next a n cap 37).later ((Below.refl _ _).alloc (Nat.le_refl _) (Obj.cells #[Value.int .i64 0, Value.slice none 0 0] 37))).later ((Below.refl _ _).alloc (Nat.le_refl _) (Obj.cells #[Value.int .i64 next, Value.slice none 0 0] 37)))
  have HT := Lib.hid ((Two.new (w.alloc (Obj.cells #[Value.int .i64 next, Value.slice a n cap] 37)) (.int .i64 0) (.slice none 0 0) 37).alloc (Obj.cells #[Value.int .i64 next, Value.slice none 0 0] 37))
  have HU := Lib.hid (Two.new ((w.alloc (Obj.cells #[Value.int .i64 next, Value.slice a n cap] 37)).alloc (Obj.cells #[Value.int .i64 0, Value.slice none 0 0] 37)) (.int .i64 next) (.slice none 0 0) 37)
  simp only [World.size_alloc] at HT HU
  go_loopw [7, 16] (fun s t wr => ∃ (k : Nat) (a1 : Option Addr) (c1 : Nat) (b1 : Option Addr) (d1 : Nat), k ≤ n ∧ t = .int .i64 k ∧ s = .slice b1 ((l.take k).filter (goneB now)).length d1 ∧ Row (w.heap.size + 3) wr 3 a1 ((l.take k).filter (stayB now)).length c1 (askC ((l.take k).filter (stayB now))) ∧ Row (w.heap.size + 3) wr 3 b1 ((l.take k).filter (goneB now)).length d1 (askC ((l.take k).filter (goneB now))) ∧ Apart a1 b1 ∧ Box w next a n cap wr ∧ Two wr (w.heap.size + 1) (.int .i64 0) (.slice none 0 0) ∧ Two wr (w.heap.size + 2) (.int .i64 next) (.slice a1 ((l.take k).filter (stayB now)).length c1)) (fun _ t _ => n - (intOf t).toNat)
  case atStart => exact ⟨0, none, 0, none, 0, Nat.zero_le _, rfl, rfl, Row.nil _ _ _, Row.nil _ _ _, Apart.nil _, HX.out, HT.out, HU.out⟩
  case round =>
    clear HX HT HU
    obtain ⟨k, a1, c1, b1, d1, hk, rfl, rfl, hrow, hrob, hap, hbw, htw, huw⟩ := hrel
    have HBW := Lib.hid hbw
    obtain ⟨e0, e1, ds, hbb⟩ := hbw
    clear hbb
    have HTW := Lib.hid htw
    have hs2 := huw.lt
    have HUW := Lib.hid huw; clear huw
    have HA := Lib.hid hap; clear hap
    have HR := Lib.hid hrow; clear hrow
    have HS := Lib.hid hrob; clear hrob
    have hk1 := filter_take_le (stayB now) l k
    have hk2 := filter_take_le (goneB now) l k
    by_cases hlt : k < n
    · obtain ⟨b, off, rfl, hb, g0, g1, g2⟩ := HAT.out k hlt
      have f0 := cellAt HBW.out.below g0
      have f1 := cellAt HBW.out.below g1
      have f2 := cellAt HBW.out.below g2
      clear g0 g1 g2 htw
      have hta := take_at l k (by rw [HL.out]; exact hlt)
      generalize l[k]?.getD noAsk = x at f0 f1 f2 hta
      obtain ⟨xc, xu, xt⟩ := x
      have HTA := Lib.hid hta; clear hta
      obtain ⟨ls, hls⟩ : ∃ ls, (l.take k).filter (stayB now) = ls := ⟨_, rfl⟩
      obtain ⟨ms, hms⟩ : ∃ ms, (l.take k).filter (goneB now) = ms := ⟨_, rfl⟩
      rw [hls] at HR hk1 HUW
      rw [hms] at HS hk2
      have hnk : ∀ j, blockOf a1 = some j → w.heap.size + 3 ≤ j ∧ j < wr.heap.size := HR.out.lt
      have hnl : ∀ j, blockOf b1 = some j → w.heap.size + 3 ≤ j ∧ j < wr.heap.size := HS.out.lt
      have HNK := Lib.hid hnk; clear hnk
      have HNL := Lib.hid hnl; clear hnl
      obtain ⟨v0, v1, v2, v3⟩ := HUW.out
      rw [hms]
      have HLS := Lib.hid hls; clear hls
      have HMS := Lib.hid hms; clear hms
      go_wp2_with fail
      refine (lateR (xc, xu, xt) now _).mono ?_
      rintro e w1 ⟨rfl, hb1⟩
      have HW := Lib.hid (((Below.refl _ _).alloc (Nat.le_refl _) _).trans (hb1.mono (by simp)) : Below wr.heap.size wr w1)
      have hsz1 := hb1.size
      simp only [World.size_alloc] at hsz1
      have p0 := cellAt hb1 (cellNew (Obj.cells #[Value.int .i64 xc, Value.int .i64 xu, Value.string xt] 53) e1)
      have x0 := cellAt (v := .int .i64 xc) (b := wr.heap.size) (o := 0) hb1 (by simp)
      have x1 := cellAt (v := .int .i64 xu) (b := wr.heap.size) (o := 1) hb1 (by simp)
      have x2 := cellAt (v := .string xt) (b := wr.heap.size) (o := 2) hb1 (by simp)
      have HB1 := Lib.hid hb1; clear hb1
      have z0 := cellAt HW.out v0
      have z1 := cellAt HW.out v1
      have z2 := freeAt HW.out v0 v2
      have z3 := freeAt HW.out v1 v3
      have HU1 := Lib.hid (HUW.out.later HW.out)
      have HT1 := Lib.hid (HTW.out.later HW.out)
      have HR1 := Lib.hid (HR.out.below HW.out)
      have HS1 := Lib.hid (HS.out.below HW.out)
      have HX1 := Lib.hid (HBW.out.later HW.out)
      clear v0 v1 v2 v3
      cases hlt' : lateB (xc, xu, xt) now
      · have hp : stayB now (xc, xu, xt) = true := by simp [stayB, hlt']
        have hq : goneB now (xc, xu, xt) = false := by simp [goneB, hlt']
        have HP := Lib.hid hp; clear hp
        have HQ := Lib.hid hq; clear hq hlt'
        go_wp2_with (at_builtin; go_must (refine wpList_append_row rfl _ _ 35 35 rfl 53 i0 (.agg #[.int .i64 0, .int .i64 0, .string ByteArray.empty]) 3 32 Try.underlying35 hi hy0 hy1 hy2 rfl rfl (HR1.out.alloc _) 1 (askV (xc, xu, xt)) (Src.oneRow Try.underlying35 (askV (xc, xu, xt)) _ 53 rfl rfl rfl (askV_one _)) (by unfold maxLen; omega) (by omega) (by simp; omega) ?_; intro a' c' w' hrow' hgr' hbk'; have HR' := Lib.hid hrow'; have HG' := Lib.hid hgr'; have HK' := Lib.hid hbk'; have HUU := Lib.hid ((HU1.out.alloc _).gr hgr' (fun e => by have := HNK.out _ e.symm; omega)); have uu := HUU.out; obtain ⟨u0, u1, u2, u3⟩ := uu; clear hrow' hgr' hbk'))
        have hB : Below (w.heap.size + 3) w1 w' := ((Below.refl _ _).alloc (by omega) _).grown HG'.out (by simp; omega) (fun j hj => (HNK.out j hj).1)
        have hB2 : Below (w.heap.size + 2) w1 (w'.setCell ⟨w.heap.size + 2, 1, none⟩ (.slice a' (ls.length + 1) c')) := Below.setCell (B := w.heap.size + 2) (p := ⟨w.heap.size + 2, 1, none⟩) (hB.mono (by omega)) (Nat.le_refl _) _
        go_roundw
        case rel =>
          refine ⟨k + 1, a', c', b1, d1, by omega, by go_num, ?_, ?_, ?_, ?_, HX1.out.laterF (by omega) (B := w.heap.size + 2) hB2, HT1.out.laterF (by omega) hB2, ?_⟩
          · rw [HTA.out, filter_snoc_f HQ.out, HMS.out]
          · rw [HTA.out, filter_snoc_t HP.out, HLS.out, ← askC_snoc]; simpa using HR'.out.put (p := ⟨w.heap.size + 2, 1, none⟩) (by simp) _
          · rw [HTA.out, filter_snoc_f HQ.out, HMS.out]; exact (((HS1.out.alloc _).kept HG'.out HA.out.symm.ne).put (p := ⟨w.heap.size + 2, 1, none⟩) (by simp) _)
          · exact HA.out.grow HK'.out (fun j hj => by have := (HNL.out j hj).2; simp; omega)
          · rw [HTA.out, filter_snoc_t HP.out, HLS.out]; simpa using HUU.out.set1 _
        case measure => simp [intOf]; omega
      · have hp : stayB now (xc, xu, xt) = false := by simp [stayB, hlt']
        have hq : goneB now (xc, xu, xt) = true := by simp [goneB, hlt']
        have HP := Lib.hid hp; clear hp
        have HQ := Lib.hid hq; clear hq hlt'
        go_wp2_with (at_builtin; go_must (refine wpList_append_row rfl _ _ 35 35 rfl 53 i0 (.agg #[.int .i64 0, .int .i64 0, .string ByteArray.empty]) 3 32 Try.underlying35 hi hy0 hy1 hy2 rfl rfl (HS1.out.alloc _) 1 (askV (xc, xu, xt)) (Src.oneRow Try.underlying35 (askV (xc, xu, xt)) _ 53 rfl rfl rfl (askV_one _)) (by unfold maxLen; omega) (by omega) (by simp; omega) ?_; intro a' c' w' hrow' hgr' hbk'; have HR' := Lib.hid hrow'; have HG' := Lib.hid hgr'; have HK' := Lib.hid hbk'; clear hrow' hgr' hbk'))
        have hB : Below (w.heap.size + 3) w1 w' := ((Below.refl _ _).alloc (by omega) _).grown HG'.out (by simp; omega) (fun j hj => (HNL.out j hj).1)
        go_roundw
        case rel =>
          refine ⟨k + 1, a1, c1, a', c', by omega, by go_num, ?_, ?_, ?_, ?_, HX1.out.laterF (by omega) hB, HT1.out.laterF (by omega) hB, ?_⟩
          · rw [HTA.out, filter_snoc_t HQ.out, HMS.out]; simp
          · rw [HTA.out, filter_snoc_f HP.out, HLS.out]; exact ((HR1.out.alloc _).kept HG'.out HA.out.ne)
          · rw [HTA.out, filter_snoc_t HQ.out, HMS.out, ← askC_snoc]; simpa using HR'.out
          · exact (HA.out.symm.grow HK'.out (fun j hj => by have := (HNK.out j hj).2; simp; omega)).symm
          · rw [HTA.out, filter_snoc_f HP.out, HLS.out]; exact HU1.out.laterF (by omega) hB
        case measure => simp [intOf]; omega
    · obtain rfl : k = n := by omega
      have hl2 : l.take k = l := List.take_of_length_le (by rw [HL.out]; omega)
      rw [hl2] at HR hk1 HUW HS ⊢
      clear hl2
      obtain ⟨q0, q1, q2, q3⟩ := htw
      obtain ⟨v0, v1, v2, v3⟩ := HUW.out
      go_wp2
      have hT := (HTW.out.set0 (.int .i64 next)).set1 (.slice a1 (l.filter (stayB now)).length c1)
      refine bodyPost_ret (v := .tuple #[.agg #[.int .i64 next, .slice a1 (l.filter (stayB now)).length c1], .slice b1 (l.filter (goneB now)).length d1]) (by simp [results, Try.f24, go_sem, hT.c0, hT.c1]) rfl ?_
      exact ⟨a1, c1, b1, d1, rfl, ((HR.out.put (p := ⟨w.heap.size + 1, 0, none⟩) (by simp) _).put (p := ⟨w.heap.size + 1, 1, none⟩) (by simp) _).mono (by omega), ((HS.out.put (p := ⟨w.heap.size + 1, 0, none⟩) (by simp) _).put (p := ⟨w.heap.size + 1, 1, none⟩) (by simp) _).mono (by omega), (HBW.out.below.setCell (by simp) _).setCell (by simp) _⟩
end Go.Proofs.Ytoninfccmonaiaa
