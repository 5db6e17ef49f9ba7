import Derived.Test.YtoninfccmonaiaaAskFit
import Derived.Outline
namespace Go.Proofs.Ytoninfccmonaiaa
open Go.RowKit

/-- the three boxes of Copy: the state, the result, 'out' -/
def cpW (w : World) (next : Int) (a : Option Addr) (n cap : Nat) : World :=
  ((w.alloc (Obj.cells #[Value.int IntKind.i64 next, Value.slice a n cap] 37)).alloc (Obj.cells #[Value.int IntKind.i64 0, Value.slice none 0 0] 37)).alloc (Obj.cells #[Value.int IntKind.i64 next, Value.slice none 0 0] 37)
theorem cpW_facts (w : World) (next : Int) (a : Option Addr) (n cap : Nat) : Two (cpW w next a n cap) (w.heap.size + 1) (.int .i64 0) (.slice none 0 0) ∧ Two (cpW w next a n cap) (w.heap.size + 1 + 1) (.int .i64 next) (.slice none 0 0) ∧ Below w.heap.size w (cpW w next a n cap) :=
  ⟨⟨by unfold cpW; go_simp, by unfold cpW; go_simp, by unfold cpW; go_simp, by unfold cpW; go_simp⟩, ⟨by unfold cpW; go_simp, by unfold cpW; go_simp, by unfold cpW; go_simp, by unfold cpW; go_simp⟩, (((Below.refl _ w).alloc (Nat.le_refl _) _).alloc (by simp) _).alloc (by simp; omega) _⟩

set_option maxHeartbeats 1000000 in
theorem askCopy (next : Int) (l : List Ask) (a : Option Addr) (n cap : Nat) (w : World) (h : Asks w a n cap l) (hn : n ≤ 100000) :
    Calls Try.prog 17 #[.agg #[.int .i64 next, .slice a n cap]] w (StOut w next l n) := by
  obtain ⟨i0, hi, hy0, hy1, hy2⟩ := info_parts Try.info53
  have H := Lib.hid h; clear h
  have HF := Lib.hid (cpW_facts w next a n cap)
  go_enter Try.func17, Try.ntmps17
  go_wp2_with (at_builtin; go_must (refine wpList_append_row rfl _ _ 35 35 rfl 53 i0 (.agg #[.int .i64 0, .int .i64 0, .string ByteArray.empty]) 3 32 Try.underlying35 hi hy0 hy1 hy2 rfl rfl (Row.nil (w.heap.size + 3) _ 3) n (askC l) (Src.ofRd Try.underlying35 (H.out.below HF.out.2.2) (askC_one _)) (by unfold maxLen; omega) (by omega) (by simp) ?_; intro a1 c1 w1 hrow hgr hbk; rw [Nat.zero_add, List.nil_append] at hrow; have HR := Lib.hid hrow; have HG := Lib.hid hgr; have HT := Lib.hid (And.intro (HF.out.1.gr hgr (by simp [blockOf])) (HF.out.2.1.gr hgr (by simp [blockOf]))); have t1 := HF.out.1.gr hgr (by simp [blockOf]); have t2 := HF.out.2.1.gr hgr (by simp [blockOf]); obtain ⟨p0, p1, p2, p3⟩ := t1; obtain ⟨q0, q1, q2, q3⟩ := t2; clear hrow hgr))
  have hT := ((HT.out.1.put (p := ⟨w.heap.size + 1 + 1, 1, none⟩) (by simp) (.slice a1 n c1)).set0 (.int .i64 next)).set1 (.slice a1 n c1)
  refine bodyPost_ret (v := .agg #[.int .i64 next, .slice a1 n c1]) (by simp [results, Try.f17, go_sem, hT.c0, hT.c1]) rfl ?_
  have hb : Below w.heap.size w w1 := HF.out.2.2.grown HG.out (by have := HF.out.2.2.size; omega) (fun k hk => by cases hk)
  exact ⟨a1, c1, rfl, (((HR.out.put (p := ⟨w.heap.size + 1 + 1, 1, none⟩) (by simp) _).put (p := ⟨w.heap.size + 1, 0, none⟩) (by simp) _).put (p := ⟨w.heap.size + 1, 1, none⟩) (by simp) _).mono (by omega),
    ((hb.setCell (by simp; omega) _).setCell (by simp) _).setCell (by simp) _⟩
end Go.Proofs.Ytoninfccmonaiaa
