import Derived.Test.YtoninfccmonaiaaAskPlain
import Derived.Outline
namespace Go.Proofs.Ytoninfccmonaiaa
open Go.RowKit

set_option maxHeartbeats 4000000 in
set_option maxRecDepth 100000 in
theorem ansN_none (next : Int) (l : List Ask) (a : Option Addr) (n cap : Nat) (corr : Int) (topic : ByteArray) (now : Int) (w : World) (h : Asks w a n cap l) (hn : n ≤ 100000) (hnd : (Keys l).Nodup) (hx : ¬ corr ∈ Keys l) :
    Calls Try.prog 21 #[.agg #[.int .i64 next, .slice a n cap], .int .i64 corr, .string topic, .int .i64 now] w (StErr w next (l.filter (keepB corr topic)) (l.filter (keepB corr topic)).length (errF corr topic now 230 l)) := by
  have hpl := plain_none hnd topic now hx
  have HQ := Lib.hid hpl.1
  have HEQ := Lib.hid hpl.2
  clear hpl hx
  have H := Lib.hid h; clear h
  have HND := Lib.hid hnd; clear hnd
  go_enter Try.func21, Try.ntmps21
  have HX := Lib.hid ((Box.new w next a n cap 37).later ((Below.refl _ _).alloc (Nat.le_refl _) (Obj.cells #[Value.int .i64 0, Value.slice none 0 0] 37)))
  have HT := Lib.hid (Two.new (w.alloc (Obj.cells #[Value.int .i64 next, Value.slice a n cap] 37)) (.int .i64 0) (.slice none 0 0) 37)
  simp only [World.size_alloc] at HT
  go_wp2_with fail
  refine (waitingN next l a n cap _ (H.out.below HX.out.below)).mono ?_
  rintro e w1 ⟨r, rfl, hm, hr, hb1⟩
  have hs1 := hb1.size
  simp only [World.size_alloc] at hr hs1
  have HX1 := Lib.hid (HX.out.later hb1)
  have HT1 := Lib.hid (HT.out.later hb1)
  have HM := Lib.hid hm; clear hm hb1 HX HT
  obtain ⟨d0, d1, dl, _⟩ := HX1.out
  have HMX := Lib.hid (AskMap.all (l := l) AskMap.nil)
  go_wp2_with (at_lookup; go_must (refine wpList_lookup_L rfl _ _ 65 true rfl 2 53 Try.underlying65 Try.underlying2 Try.zero53 rfl HM.out rfl ?_); simp only [HQ.out, Option.getD_none, Option.isSome_none, if_true])
  have hb : Below w1.heap.size w1 (w1.alloc (Obj.cells #[Value.int .i64 0, Value.int .i64 0, Value.string ByteArray.empty] 53)) := (Below.refl _ _).alloc (Nat.le_refl _) _
  have WX := Lib.hid (HX1.out.later hb)
  have WT := Lib.hid (HT1.out.later hb)
  refine (listedN next l a n cap _ (H.out.below WX.out.below) hn r _ (HM.out.below hb) HMX.out).mono ?_
  rintro e w3 ⟨a3, c3, rfl, hr3, hb3⟩
  have HX3 := Lib.hid (WX.out.later hb3)
  have HT3 := Lib.hid (WT.out.later hb3)
  obtain ⟨q0, q1, q2, q3⟩ := HT3.out
  have HR3 := Lib.hid hr3
  clear hr3 hb3
  go_wp2
  have hT := (HT3.out.set0 (.int .i64 next)).set1 (.slice a3 (l.filter (inM (putAll [] l))).length c3)
  refine bodyPost_ret (v := .tuple #[.agg #[.int .i64 next, .slice a3 (l.filter (inM (putAll [] l))).length c3], .int .i64 230]) (by simp [results, Try.f21, go_sem, hT.c0, hT.c1]) rfl ?_
  refine ⟨a3, c3, by rw [HEQ.out.1, HEQ.out.2], ?_, (HX3.out.below.setCell (by simp) _).setCell (by simp) _⟩
  rw [← HEQ.out.1]
  exact ((HR3.out.put (p := ⟨w.heap.size + 1, 0, none⟩) (by have := WT.out.lt; simp; omega) _).put (p := ⟨w.heap.size + 1, 1, none⟩) (by have := WT.out.lt; simp; omega) _).mono (by have := WT.out.lt; omega)

set_option maxHeartbeats 4000000 in
set_option maxRecDepth 100000 in
theorem ansN_other (next : Int) (l : List Ask) (a : Option Addr) (n cap : Nat) (x : Ask) (topic : ByteArray) (now : Int) (w : World) (h : Asks w a n cap l) (hn : n ≤ 100000) (hnd : (Keys l).Nodup) (hx : x ∈ l) (ht : ¬ x.2.2 = topic) :
    Calls Try.prog 21 #[.agg #[.int .i64 next, .slice a n cap], .int .i64 x.1, .string topic, .int .i64 now] w (StErr w next (l.filter (keepB x.1 topic)) (l.filter (keepB x.1 topic)).length (errF x.1 topic now 230 l)) := by
  have HQ := Lib.hid (look_putAll_in (m := []) hnd hx)
  have HEQ := Lib.hid (plain_other hnd hx now ht)
  have hbb := bytes_beq x.2.2 topic
  rw [decide_eq_false ht] at hbb
  clear hx ht
  obtain ⟨xc, xu, xt⟩ := x
  dsimp only at hbb HQ HEQ ⊢
  have H := Lib.hid h; clear h
  have HND := Lib.hid hnd; clear hnd
  go_enter Try.func21, Try.ntmps21
  have HX := Lib.hid ((Box.new w next a n cap 37).later ((Below.refl _ _).alloc (Nat.le_refl _) (Obj.cells #[Value.int .i64 0, Value.slice none 0 0] 37)))
  have HT := Lib.hid (Two.new (w.alloc (Obj.cells #[Value.int .i64 next, Value.slice a n cap] 37)) (.int .i64 0) (.slice none 0 0) 37)
  simp only [World.size_alloc] at HT
  go_wp2_with fail
  refine (waitingN next l a n cap _ (H.out.below HX.out.below)).mono ?_
  rintro e w1 ⟨r, rfl, hm, hr, hb1⟩
  have hs1 := hb1.size
  simp only [World.size_alloc] at hr hs1
  have HX1 := Lib.hid (HX.out.later hb1)
  have HT1 := Lib.hid (HT.out.later hb1)
  have HM := Lib.hid hm; clear hm hb1 HX HT
  obtain ⟨d0, d1, dl, _⟩ := HX1.out
  have HMX := Lib.hid (AskMap.all (l := l) AskMap.nil)
  go_wp2_with (at_lookup; go_must (refine wpList_lookup_L rfl _ _ 65 true rfl 2 53 Try.underlying65 Try.underlying2 Try.zero53 rfl HM.out rfl ?_); simp only [HQ.out, Option.getD_some, Option.isSome_some, if_true, askVal])
  have hb : Below w1.heap.size w1 (w1.alloc (Obj.cells #[Value.int .i64 xc, Value.int .i64 xu, Value.string xt] 53)) := (Below.refl _ _).alloc (Nat.le_refl _) _
  have WX := Lib.hid (HX1.out.later hb)
  have WT := Lib.hid (HT1.out.later hb)
  refine (listedN next l a n cap _ (H.out.below WX.out.below) hn r _ (HM.out.below hb) HMX.out).mono ?_
  rintro e w3 ⟨a3, c3, rfl, hr3, hb3⟩
  have HX3 := Lib.hid (WX.out.later hb3)
  have HT3 := Lib.hid (WT.out.later hb3)
  obtain ⟨q0, q1, q2, q3⟩ := HT3.out
  have HR3 := Lib.hid hr3
  clear hr3 hb3
  go_wp2
  have hT := (HT3.out.set0 (.int .i64 next)).set1 (.slice a3 (l.filter (inM (putAll [] l))).length c3)
  refine bodyPost_ret (v := .tuple #[.agg #[.int .i64 next, .slice a3 (l.filter (inM (putAll [] l))).length c3], .int .i64 230]) (by simp [results, Try.f21, go_sem, hT.c0, hT.c1]) rfl ?_
  refine ⟨a3, c3, by rw [HEQ.out.1, HEQ.out.2], ?_, (HX3.out.below.setCell (by simp) _).setCell (by simp) _⟩
  rw [← HEQ.out.1]
  exact ((HR3.out.put (p := ⟨w.heap.size + 1, 0, none⟩) (by have := WT.out.lt; simp; omega) _).put (p := ⟨w.heap.size + 1, 1, none⟩) (by have := WT.out.lt; simp; omega) _).mono (by have := WT.out.lt; omega)

set_option maxHeartbeats 4000000 in
set_option maxRecDepth 100000 in
theorem ansN_it (next : Int) (l : List Ask) (a : Option Addr) (n cap : Nat) (x : Ask) (now : Int) (w : World) (h : Asks w a n cap l) (hn : n ≤ 100000) (hnd : (Keys l).Nodup) (hx : x ∈ l) :
    Calls Try.prog 21 #[.agg #[.int .i64 next, .slice a n cap], .int .i64 x.1, .string x.2.2, .int .i64 now] w (StErr w next (l.filter (keepB x.1 x.2.2)) (l.filter (keepB x.1 x.2.2)).length (errF x.1 x.2.2 now 230 l)) := by
  have HQ := Lib.hid (look_putAll_in (m := []) hnd hx)
  have HEQ := Lib.hid (plain_it hnd hx now)
  have hbb := bytes_beq x.2.2 x.2.2
  rw [decide_eq_true rfl] at hbb
  clear hx
  obtain ⟨xc, xu, xt⟩ := x
  dsimp only at hbb HQ HEQ ⊢
  have H := Lib.hid h; clear h
  have HND := Lib.hid hnd; clear hnd
  go_enter Try.func21, Try.ntmps21
  have HX := Lib.hid ((Box.new w next a n cap 37).later ((Below.refl _ _).alloc (Nat.le_refl _) (Obj.cells #[Value.int .i64 0, Value.slice none 0 0] 37)))
  have HT := Lib.hid (Two.new (w.alloc (Obj.cells #[Value.int .i64 next, Value.slice a n cap] 37)) (.int .i64 0) (.slice none 0 0) 37)
  simp only [World.size_alloc] at HT
  go_wp2_with fail
  refine (waitingN next l a n cap _ (H.out.below HX.out.below)).mono ?_
  rintro e w1 ⟨r, rfl, hm, hr, hb1⟩
  have hs1 := hb1.size
  simp only [World.size_alloc] at hr hs1
  have HX1 := Lib.hid (HX.out.later hb1)
  have HT1 := Lib.hid (HT.out.later hb1)
  have HM := Lib.hid hm; clear hm hb1 HX HT
  obtain ⟨d0, d1, dl, _⟩ := HX1.out
  have HMX := Lib.hid (AskMap.all (l := l) AskMap.nil)
  go_wp2_with (first | (at_delete; go_must (refine wpList_delete_L rfl _ _ 65 2 53 rfl Try.underlying65 Try.underlying2 rfl (HM.out.alloc _) rfl ?_); intro w2 hm2 hg2; have HM2 := Lib.hid hm2; have HG2 := Lib.hid hg2; have x0 := cellGr (b := w1.heap.size) (o := 0) (v := .int .i64 xc) hg2 (by simp) (by simp; have := HM.out.lt; omega); have x1 := cellGr (b := w1.heap.size) (o := 1) (v := .int .i64 xu) hg2 (by simp) (by simp; have := HM.out.lt; omega); have x2 := cellGr (b := w1.heap.size) (o := 2) (v := .string xt) hg2 (by simp) (by simp; have := HM.out.lt; omega); have HTw := Lib.hid ((HT1.out.alloc (Obj.cells #[Value.int .i64 xc, Value.int .i64 xu, Value.string xt] 53)).gr hg2 (by simp; omega)); clear hm2 hg2) | (at_lookup; go_must (refine wpList_lookup_L rfl _ _ 65 true rfl 2 53 Try.underlying65 Try.underlying2 Try.zero53 rfl HM.out rfl ?_); simp only [HQ.out, Option.getD_some, Option.isSome_some, if_true, askVal]))
  have hb : Below (w.heap.size + 2) w1 w2 := ((Below.refl _ _).alloc (by omega) _).grown HG2.out (by simp; omega) (fun j hj => by cases hj; omega)
  have WX2 := Lib.hid (HX1.out.laterF (by omega) hb)
  obtain ⟨d0', d1', dl', _⟩ := WX2.out
  refine (lateN (xc, xu, xt) now _).mono ?_
  rintro e w4 ⟨rfl, hb4⟩
  have WX := Lib.hid (WX2.out.later hb4)
  have WT := Lib.hid (HTw.out.later hb4)
  obtain ⟨d0'', d1'', dl'', _⟩ := WX.out
  have HM4 := Lib.hid (HM2.out.below hb4)
  have HMD := Lib.hid (HMX.out.del (nodup_putAll (by simp)) xc)
  clear hb4
  cases hlt : lateB (xc, xu, xt) now
  · rw [hlt] at HEQ
    simp only [Bool.false_eq_true, if_false] at HEQ
    clear hlt
    go_wp2_with fail
    refine (listedN next l a n cap _ (H.out.below WX.out.below) hn r _ HM4.out HMD.out).mono ?_
    rintro e w3 ⟨a3, c3, rfl, hr3, hb3⟩
    have HX3 := Lib.hid (WX.out.later hb3)
    have HT3 := Lib.hid (WT.out.later hb3)
    obtain ⟨q0, q1, q2, q3⟩ := HT3.out
    have HR3 := Lib.hid hr3
    clear hr3 hb3
    go_wp2
    have hT := (HT3.out.set0 (.int .i64 next)).set1 (.slice a3 (l.filter (inM (delL xc (putAll [] l)))).length c3)
    refine bodyPost_ret (v := .tuple #[.agg #[.int .i64 next, .slice a3 (l.filter (inM (delL xc (putAll [] l)))).length c3], .int .i64 0]) (by simp [results, Try.f21, go_sem, hT.c0, hT.c1]) rfl ?_
    refine ⟨a3, c3, by rw [HEQ.out.1, HEQ.out.2], ?_, (HX3.out.below.setCell (by simp) _).setCell (by simp) _⟩
    rw [← HEQ.out.1]
    exact ((HR3.out.put (p := ⟨w.heap.size + 1, 0, none⟩) (by have := WT.out.lt; simp; omega) _).put (p := ⟨w.heap.size + 1, 1, none⟩) (by have := WT.out.lt; simp; omega) _).mono (by have := WT.out.lt; omega)
  · rw [hlt] at HEQ
    simp only [if_true] at HEQ
    clear hlt
    go_wp2_with fail
    refine (listedN next l a n cap _ (H.out.below WX.out.below) hn r _ HM4.out HMD.out).mono ?_
    rintro e w3 ⟨a3, c3, rfl, hr3, hb3⟩
    have HX3 := Lib.hid (WX.out.later hb3)
    have HT3 := Lib.hid (WT.out.later hb3)
    obtain ⟨q0, q1, q2, q3⟩ := HT3.out
    have HR3 := Lib.hid hr3
    clear hr3 hb3
    go_wp2
    have hT := (HT3.out.set0 (.int .i64 next)).set1 (.slice a3 (l.filter (inM (delL xc (putAll [] l)))).length c3)
    refine bodyPost_ret (v := .tuple #[.agg #[.int .i64 next, .slice a3 (l.filter (inM (delL xc (putAll [] l)))).length c3], .int .i64 170]) (by simp [results, Try.f21, go_sem, hT.c0, hT.c1]) rfl ?_
    refine ⟨a3, c3, by rw [HEQ.out.1, HEQ.out.2], ?_, (HX3.out.below.setCell (by simp) _).setCell (by simp) _⟩
    rw [← HEQ.out.1]
    exact ((HR3.out.put (p := ⟨w.heap.size + 1, 0, none⟩) (by have := WT.out.lt; simp; omega) _).put (p := ⟨w.heap.size + 1, 1, none⟩) (by have := WT.out.lt; simp; omega) _).mono (by have := WT.out.lt; omega)

theorem ansN (next : Int) (l : List Ask) (a : Option Addr) (n cap : Nat) (corr : Int) (topic : ByteArray) (now : Int) (w : World) (h : Asks w a n cap l) (hn : n ≤ 100000) (hnd : (Keys l).Nodup) :
    Calls Try.prog 21 #[.agg #[.int .i64 next, .slice a n cap], .int .i64 corr, .string topic, .int .i64 now] w (StErr w next (l.filter (keepB corr topic)) (l.filter (keepB corr topic)).length (errF corr topic now 230 l)) := by
  by_cases hx : corr ∈ Keys l
  · obtain ⟨x, hm, rfl⟩ := List.mem_map.1 hx
    by_cases ht : x.2.2 = topic
    · subst ht; exact ansN_it next l a n cap x now w h hn hnd hm
    · exact ansN_other next l a n cap x topic now w h hn hnd hm ht
  · exact ansN_none next l a n cap corr topic now w h hn hnd hx
end Go.Proofs.Ytoninfccmonaiaa
