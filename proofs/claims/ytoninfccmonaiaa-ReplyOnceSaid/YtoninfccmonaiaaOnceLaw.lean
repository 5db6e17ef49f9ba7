import Derived.Test.YtoninfccmonaiaaTurns
import Derived.Deep.Cut
import Derived.Test.YtoninfccmonaiaaAskAwake
import Derived.Outline
namespace Go.Proofs.Ytoninfccmonaiaa
open Go.RowKit

/-- how it lies in memory -/
structure Mem (w W : World) (last : Int) (l : List Ask) (f : Int → Int) (m : List (Int × Value)) (a1 : Option Addr) (n1 c1 : Nat) : Prop where
  box : Two W w.heap.size (.int .i64 last) (.slice a1 n1 c1)
  map : MapAt W (w.heap.size + 1) m
  cnt : Cnt m f
  row : Row (w.heap.size + 2) W 3 a1 n1 c1 (askC l)
  below : Below w.heap.size w W
section
variable {w W W' : World} {last : Int} {l : List Ask} {f : Int → Int} {m : List (Int × Value)} {a1 : Option Addr} {n1 c1 : Nat}
theorem Mem.later (h : Mem w W last l f m a1 n1 c1) (hb : Below W.heap.size W W') : Mem w W' last l f m a1 n1 c1 :=
  ⟨h.box.later hb, h.map.below hb, h.cnt, h.row.below hb, h.below.trans (hb.mono h.below.size)⟩
theorem Mem.store (h : Mem w W last l f m a1 n1 c1) {B : Nat} {last2 : Int} {l2 : List Ask} {a2 : Option Addr} {n2 c2 : Nat} (hr : Row B W 3 a2 n2 c2 (askC l2)) (hB : w.heap.size + 2 ≤ B) :
    Mem w ((W.setCell ⟨w.heap.size, 0, none⟩ (.int .i64 last2)).setCell ⟨w.heap.size, 1, none⟩ (.slice a2 n2 c2)) last2 l2 f m a2 n2 c2 :=
  ⟨(h.box.set0 _).set1 _, (h.map.kept (grownBy_setAt _ ⟨w.heap.size, 0, none⟩ _) (by simp)).kept (grownBy_setAt _ ⟨w.heap.size, 1, none⟩ _) (by simp), h.cnt,
   ((hr.mono hB).put (p := ⟨w.heap.size, 0, none⟩) (by simp) _).put (p := ⟨w.heap.size, 1, none⟩) (by simp) _, (h.below.setCell (by simp) _).setCell (by simp) _⟩
theorem Mem.upd (h : Mem w W last l f m a1 n1 c1) {k : Int} (hm : MapAt W' (w.heap.size + 1) (putL k (.int .i64 (f k + 1)) m)) (hg : W.grownBy W' (some (w.heap.size + 1))) : Mem w W' last l (bump f k) (putL k (.int .i64 (f k + 1)) m) a1 n1 c1 :=
  ⟨h.box.gr hg (by simp), hm, h.cnt.put k, h.row.kept hg (.inl (fun e => by have := (h.row.lt _ e).1; omega)), h.below.grown hg h.below.size (fun j hj => by cases hj; omega)⟩
end
/-- how it stands ahead of turn i -/
structure Good (i : Nat) (now last : Int) (l : List Ask) (f : Int → Int) : Prop where
  fit : fitA last l = true
  ends : Ends last l f
  hl : last ≤ i ∧ (l.length : Int) ≤ last ∧ i ≤ 200
  tick : 0 ≤ now ∧ now ≤ 1099511627776
theorem Ends.le {last : Int} {l : List Ask} {f : Int → Int} (h : Ends last l f) (k : Int) : 0 ≤ f k ∧ f k ≤ 1 := by
  rw [h k]; split <;> omega
theorem bumps_snoc (a : Ask) : ∀ (l : List Ask) (f : Int → Int), bumps f (l ++ [a]) = bump (bumps f l) a.1
  | [], _ => rfl
  | b :: r, f => by simp only [List.cons_append, bumps, bumps_snoc a r]
theorem keys_take {l : List Ask} (h : (Keys l).Nodup) (j : Nat) : (Keys (l.take j)).Nodup := by
  unfold Keys at *
  rw [List.map_take]
  exact h.sublist (List.take_sublist _ _)
theorem bumps_le {l : List Ask} {f : Int → Int} (h : (Keys l).Nodup) (hf : ∀ k, 0 ≤ f k ∧ f k ≤ 1) (j : Nat) (k : Int) : 0 ≤ bumps f (l.take j) k ∧ bumps f (l.take j) k ≤ 2 := by
  rw [bumps_eq k (keys_take h j)]
  have := hf k
  split <;> omega
/-- what Answer comes to, of the ends -/
theorem ans_cases {l : List Ask} {corr : Int} {topic : ByteArray} {now : Int} {l3 : List Ask} {n3 : Nat} {e3 : Int} (hr : AnsRes l corr topic now l3 n3 e3) (hnd : (Keys l).Nodup) :
    (e3 = 230 ∧ l3 = l) ∨ (¬ e3 = 230 ∧ ∃ x ∈ l, x.1 = corr ∧ x.2.2 = topic) := by
  obtain ⟨h1, _, h3⟩ := hr
  by_cases h : ∃ x ∈ l, keepB corr topic x = false
  · obtain ⟨x, hx, hk⟩ := h
    right
    have hxc : x.1 = corr ∧ x.2.2 = topic := by simpa [keepB] using hk
    refine ⟨?_, x, hx, hxc⟩
    rw [← h3, errF_one hk hnd hx]
    split <;> omega
  · have hk : ∀ x ∈ l, keepB corr topic x = true := fun x hx => by
      cases hh : keepB corr topic x with
      | true => rfl
      | false => exact absurd ⟨x, hx, hh⟩ h
    left
    exact ⟨by rw [← h3, errF_keep hk], by rw [← h1, filter_true hk]⟩
theorem ans_stays {l : List Ask} (hnd : (Keys l).Nodup) {x : Ask} (hx : x ∈ l) {now : Int} (hs : lateB x now = false) : ∃ l5 n5, AnsRes l x.1 x.2.2 now l5 n5 0 :=
  ⟨_, _, rfl, rfl, by rw [errF_one (x := x) (by simp [keepB]) hnd hx, hs]; rfl⟩
theorem Try.info3 : (Try.prog.info? 3).map (fun i => (i.zero, i.size, i.bytes)) = some (some (.int .i64 0), 1, 8) := by kernel_rfl
theorem Try.zero3 : ∀ w, (zeroValue 3).run Try.prog w = .ok (.int .i64 0) w := by
  intro w
  obtain ⟨i0, hi, h0, h1, h2⟩ := info_parts Try.info3
  simp [zeroValue, typeInfo, hi, h0]
theorem umod_nonneg (n : Int) (k : Int) : 0 ≤ (IntKind.u64.wrap n).tmod k := Int.tmod_nonneg _ (by rw [IntKind.wrap_u64]; omega)

set_option maxHeartbeats 8000000 in
set_option maxRecDepth 100000 in
theorem onceLaw (rs : List Turn) (a : Option Addr) (n cap : Nat) (w : World) (h : Turns w a n cap rs) :
    Calls Try.prog 7 #[.slice a n cap] w (RV w (.bool true)) := by
  have hlen := h.len
  have HL := Lib.hid hlen; clear hlen
  obtain ⟨hcap, hmax⟩ := h.bounds
  have hat := fun k (hk : k < n) => h.at hk
  have HAT := Lib.hid hat; clear hat h
  have hmm := @run_makeMap Try.prog
  go_enter Try.func7, Try.ntmps7
  have HX := Lib.hid ((Two.new w (.int .i64 0) (.slice none 0 0) 37).alloc (.map #[] 0))
  have HM := Lib.hid (MapAt.new (w.alloc (Obj.cells #[Value.int .i64 0, Value.slice none 0 0] 37)))
  have HB := Lib.hid (((Below.refl _ w).alloc (Nat.le_refl _) (Obj.cells #[Value.int .i64 0, Value.slice none 0 0] 37)).alloc (by simp) (.map #[] 0))
  simp only [World.size_alloc] at HM
  go_wp2
  go_loopw [4, 5, 26] (fun nw la t wr => ∃ (i : Nat) (now last : Int) (l : List Ask) (f : Int → Int) (m : List (Int × Value)) (a1 : Option Addr) (n1 c1 : Nat), i ≤ n ∧ t = .int .i64 i ∧ nw = .int .i64 now ∧ la = .int .i64 last ∧ Mem w wr last l f m a1 n1 c1 ∧ Good i now last l f) (fun _ _ t _ => n - (intOf t).toNat)
  case atStart =>
    exact ⟨0, 0, 0, [], _, [], none, 0, 0, Nat.zero_le _, rfl, rfl, rfl, ⟨HX.out, HM.out, Cnt.nil, Row.nil _ _ _, HB.out⟩, by decide, fun k => by rw [if_neg (by omega)], ⟨by omega, by simp, by omega⟩, by omega, by omega⟩
  case round =>
    clear HX HM HB
    obtain ⟨i, now, last, l, f, m, a1, n1, c1, hi, rfl, rfl, rfl, hme, hgo⟩ := hrel
    have hln := (show Asks wr a1 n1 c1 l from hme.row.rd).len
    have HME := Lib.hid hme
    have HGO := Lib.hid hgo
    obtain ⟨⟨x0, x1, x2, x3⟩, hm0, _, _, hbel⟩ := hme
    obtain ⟨hfit, _, hlast, htick⟩ := hgo
    have hl0 := (fitA_parts hfit).1.1
    clear hfit
    have hlm := hm0.lt
    clear hm0
    have hn1 : n1 ≤ 200 := by omega
    have hl200 : last ≤ 200 := by omega
    have HLN := Lib.hid hln; clear hln
    have hl1 : w.heap.size < wr.heap.size := by omega
    have HNW := Lib.hid htick
    by_cases hlt : i < n
    · by_cases h200 : i < 200
      · have hd : decide ((200 : Int) ≤ (i : Int)) = false := by simp; omega
        obtain ⟨b, off, rfl, hb, e0, e1, e2, e3, e4⟩ := HAT.out i hlt
        have f0 := cellAt hbel e0
        have f1 := cellAt hbel e1
        have f2 := cellAt hbel e2
        have f3 := cellAt hbel e3
        have f4 := cellAt hbel e4
        clear e0 e1 e2 e3 e4 hbel
        generalize rs[i]?.getD noTurn = t at f0 f1 f2 f3 f4
        obtain ⟨op, corr, topic, lat, til⟩ := t
        dsimp only at f0 f1 f2 f3 f4
        have hd8 : 0 ≤ (IntKind.u64.wrap lat).tmod 8 ∧ (IntKind.u64.wrap lat).tmod 8 < 8 := ⟨umod_nonneg _ _, Int.tmod_lt_of_pos _ (by omega)⟩
        have hr3 : 0 ≤ (IntKind.u64.wrap op).tmod 3 ∧ (IntKind.u64.wrap op).tmod 3 < 3 := ⟨umod_nonneg _ _, Int.tmod_lt_of_pos _ (by omega)⟩
        have hd40 : 0 ≤ (IntKind.u64.wrap til).tmod 40 ∧ (IntKind.u64.wrap til).tmod 40 < 40 := ⟨umod_nonneg _ _, Int.tmod_lt_of_pos _ (by omega)⟩
        obtain ⟨d8, he8⟩ : ∃ d8, (IntKind.u64.wrap lat).tmod 8 = d8 := ⟨_, rfl⟩
        obtain ⟨d40, he40⟩ : ∃ d40, (IntKind.u64.wrap til).tmod 40 = d40 := ⟨_, rfl⟩
        obtain ⟨d3, he3⟩ : ∃ d3, (IntKind.u64.wrap op).tmod 3 = d3 := ⟨_, rfl⟩
        rw [he8] at hd8
        rw [he40] at hd40
        rw [he3] at hr3
        have hw1 : wrap64 d8 = d8 := IntWalk.wrap64_in _ (by omega)
        have hw2 : wrap64 (now + d8) = now + d8 := IntWalk.wrap64_in _ (by omega)
        have hw3 : wrap64 d40 = d40 := IntWalk.wrap64_in _ (by omega)
        obtain ⟨now2, hmin⟩ : ∃ now2, (if (1099511627776 : Int) < now + d8 then 1099511627776 else now + d8) = now2 := ⟨_, rfl⟩
        have hn2 : 0 ≤ now2 ∧ now2 ≤ 1099511627776 := by rw [← hmin]; split <;> omega
        have HN2 := Lib.hid hn2; clear hn2
        have HME1 := Lib.hid (HME.out.later ((Below.refl _ _).alloc (Nat.le_refl _) (Obj.cells #[Value.int .i64 op, Value.int .i64 corr, Value.string topic, Value.int .i64 lat, Value.int .i64 til] 58)))
        clear HME
        have hc : d3 = 0 ∨ d3 = 1 ∨ d3 = 2 := by omega
        rcases hc with rfl | rfl | rfl
        · have hnf : fullA last n1 = false := by unfold fullA; simp; omega
          have hle : decide (last + 1 ≤ last) = false := by simp; omega
          go_wp2_with fail
          refine (openN_room last l a1 n1 c1 topic d40 _ HME1.out.row.rd (by omega) hl0 hnf).mono ?_
          rintro e w1 ⟨a2, c2, rfl, hr2, hb2⟩
          have hs2 := hb2.size
          simp only [World.size_alloc] at hs2
          have HME2 := Lib.hid ((HME1.out.later hb2).store hr2 (last2 := last + 1) (by simp; omega))
          obtain ⟨y0, y1, y2, y3⟩ := (HME1.out.later hb2).box
          clear hr2 hb2 x0 x1 x2 x3
          go_wp2
          go_roundw
          case rel =>
            refine ⟨i + 1, now2, last + 1, _, f, m, a2, n1 + 1, c2, by omega, by go_num, rfl, rfl, HME2.out, ?_, HGO.out.ends.open (fitA_parts HGO.out.fit).2 _ _ hl0, ?_, HN2.out⟩
            · have := OpenRes.fit (.inr ⟨by rw [HLN.out]; exact hnf, rfl, rfl, rfl, rfl, rfl⟩ : OpenRes last l topic d40 (last + 1) (l ++ [(last + 1, d40, topic)]) (l.length + 1) (last + 1) 0) HGO.out.fit (by omega) (by omega)
              exact this.1
            · have := HLN.out
              simp
              omega
          case measure => simp [intOf]; omega
        · obtain ⟨l3, n3, e3, har⟩ := ansRes l corr topic now2
          have hnd := fitA_nodup HGO.out.fit
          have hcs := ans_cases har hnd
          have hf3 := fitA_filter HGO.out.fit (keepB corr topic)
          have hle3 : l3.length ≤ l.length := by rw [← har.1]; exact List.length_filter_le _ _
          rw [har.1] at hf3
          have hn3 := har.2.1
          have HAR := Lib.hid har; clear har
          have HND := Lib.hid hnd; clear hnd
          have HF3 := Lib.hid hf3; clear hf3
          have HN3 := Lib.hid (And.intro hn3 hle3); clear hn3 hle3
          have HCS := Lib.hid hcs; clear hcs
          go_wp2_with fail
          refine (ansN_any HAR.out HME1.out.row.rd (by omega) HND.out).mono ?_
          rintro e w1 ⟨a2, c2, rfl, hr2, hb2⟩
          have hs2 := hb2.size
          simp only [World.size_alloc] at hs2
          have HME2 := Lib.hid ((HME1.out.later hb2).store hr2 (last2 := last) (by simp; omega))
          obtain ⟨y0, y1, y2, y3⟩ := (HME1.out.later hb2).box
          have z1 := cellAt (v := .int .i64 corr) (b := wr.heap.size) (o := 1) hb2 (by simp)
          clear hr2 hb2 x0 x1 x2 x3
          rcases HCS.out with ⟨h230, hl3⟩ | ⟨h230, x, hx, hxc, hxt⟩
          · have hq : (e3 != 230) = false := by simp [h230]
            have HL3 := Lib.hid hl3
            clear h230 hl3
            go_wp2
            go_roundw
            case rel =>
              refine ⟨i + 1, now2, last, _, f, m, a2, n3, c2, by omega, by go_num, rfl, rfl, HME2.out, HF3.out, ?_, ?_, HN2.out⟩
              · rw [HL3.out]; exact HGO.out.ends
              · have := HN3.out; have := HLN.out; simp; omega
            case measure => simp [intOf]; omega
          · have hq : (e3 != 230) = true := by simp [h230]
            have hen := HGO.out.ends.ans (fitA_parts HGO.out.fit).2 hx
            rw [hxc, hxt, HAR.out.1] at hen
            have HEN := Lib.hid hen
            have hfc := HGO.out.ends.le corr
            have hcn := HME2.out.cnt corr
            have HCN := Lib.hid hcn
            clear h230 hen hx hxc hxt hcn
            go_wp2_with (first | (at_lookup; go_must (refine wpList_lookup_L rfl _ _ 56 false rfl 2 3 Try.underlying56 Try.underlying2 Try.zero3 rfl HME2.out.map rfl ?_); simp only [Bool.false_eq_true, if_false, HCN.out]) | (at_mapUpdate; go_must (refine wpList_update_L rfl _ _ _ 56 rfl 2 3 Try.underlying56 Try.underlying2 rfl HME2.out.map rfl ?_; intro w' hm' hgr'; have HME3 := Lib.hid (HME2.out.upd (k := corr) hm' hgr'); clear hm' hgr')))
            go_roundw
            case rel =>
              refine ⟨i + 1, now2, last, _, _, _, a2, n3, c2, by omega, by go_num, rfl, rfl, HME3.out, HF3.out, HEN.out, ?_, HN2.out⟩
              have := HN3.out; have := HLN.out; simp; omega
            case measure => simp [intOf]; omega
        · obtain ⟨l4, n4, g4, m4, her⟩ := expRes l now2
          have hnd := fitA_nodup HGO.out.fit
          have hf4 := fitA_filter HGO.out.fit (stayB now2)
          have hen := HGO.out.ends.exp (fitA_parts HGO.out.fit).2 now2
          have hle4 : l4.length ≤ l.length := by rw [← her.1]; exact List.length_filter_le _ _
          have hle5 : g4.length ≤ l.length := by rw [← her.2.2.1]; exact List.length_filter_le _ _
          have hst : ∀ x ∈ l4, lateB x now2 = false := by
            intro x hx
            rw [← her.1] at hx
            have := (List.mem_filter.1 hx).2
            simpa [stayB] using this
          have hng : (Keys g4).Nodup := by
            rw [← her.2.2.1]
            exact fitFrom_nodup (fitFrom_filter _ (fitA_parts HGO.out.fit).2)
          rw [her.1] at hf4 hen
          rw [her.2.2.1] at hen
          have hn4 : n4 ≤ 200 := by have := HLN.out; have := her.2.1; omega
          have hm4 : m4 ≤ 200 := by have := HLN.out; have := her.2.2.2; omega
          have HER := Lib.hid her; clear her
          have HND := Lib.hid hnd; clear hnd
          have HF4 := Lib.hid hf4; clear hf4
          have HEN := Lib.hid hen; clear hen
          have HST := Lib.hid hst; clear hst
          have HNG := Lib.hid hng; clear hng
          have HLE := Lib.hid (And.intro hle4 hle5); clear hle4 hle5
          have hbe : Below (wr.alloc (Obj.cells #[Value.int .i64 op, Value.int .i64 corr, Value.string topic, Value.int .i64 lat, Value.int .i64 til] 58)).heap.size (wr.alloc (Obj.cells #[Value.int .i64 op, Value.int .i64 corr, Value.string topic, Value.int .i64 lat, Value.int .i64 til] 58)) ((wr.alloc (Obj.cells #[Value.int .i64 op, Value.int .i64 corr, Value.string topic, Value.int .i64 lat, Value.int .i64 til] 58)).alloc (Obj.cells #[] 53)) := (Below.refl _ _).alloc (Nat.le_refl _) _
          have HMEe := Lib.hid (HME1.out.later hbe)
          clear hbe HME1
          go_wp2_with fail
          refine (expN_any HER.out HMEe.out.row.rd (by omega) HND.out).mono ?_
          rintro e w1 ⟨a2, c2, gb, db, rfl, hr2, hg2, hb2⟩
          have hs2 := hb2.size
          simp only [World.size_alloc] at hs2
          have HME2 := Lib.hid ((HMEe.out.later hb2).store hr2 (last2 := last) (by simp; omega))
          have HG2 := Lib.hid (((hg2.put (p := ⟨w.heap.size, 0, none⟩) (by simp; omega) (.int .i64 last)).put (p := ⟨w.heap.size, 1, none⟩) (by simp; omega) (.slice a2 n4 c2)).mono (B' := w.heap.size + 2) (by simp; omega))
          obtain ⟨y0, y1, y2, y3⟩ := (HMEe.out.later hb2).box
          have hlw1 : w.heap.size < w1.heap.size := by omega
          clear hr2 hb2 hg2 x0 x1 x2 x3 HMEe
          go_wp2
          clear y0 y1 y2 y3 f0 f1 f2 f3 f4
          generalize (w1.setCell ⟨w.heap.size, 0, none⟩ (.int .i64 last)).setCell ⟨w.heap.size, 1, none⟩ (.slice a2 n4 c2) = W2 at HME2 HG2 ⊢
          have hcap4 := (show Asks W2 gb m4 db g4 from HG2.out.rd).bounds
          go_loopw [98] (fun t wr => ∃ (j : Nat) (mj : List (Int × Value)), j ≤ m4 ∧ t = .int .i64 j ∧ Mem w wr last l4 (bumps f (g4.take j)) mj a2 n4 c2 ∧ Row (w.heap.size + 2) wr 3 gb m4 db (askC g4)) (fun t _ => m4 - (intOf t).toNat)
          case atStart => exact ⟨0, m, Nat.zero_le _, rfl, HME2.out, HG2.out⟩
          case round =>
            clear HME2 HG2
            obtain ⟨j, mj, hj, rfl, hmj, hgj⟩ := hrel
            have HMJ := Lib.hid hmj
            have HGJ := Lib.hid hgj
            have hlj := (show Asks wr gb m4 db g4 from hgj.rd).len
            have HLJ := Lib.hid hlj; clear hlj
            clear hmj hgj
            by_cases hjt : j < m4
            · obtain ⟨bg, og, rfl, hbg, p0, p1, p2⟩ := (show Asks wr gb m4 db g4 from HGJ.out.rd).at hjt
              have hta := take_at g4 j (by rw [HLJ.out]; exact hjt)
              generalize g4[j]?.getD noAsk = x at p0 p1 p2 hta
              obtain ⟨xc, xu, xt⟩ := x
              dsimp only at p0 p1 p2
              have HTA := Lib.hid hta; clear hta
              have hbo := bumps_le HNG.out (fun k => HGO.out.ends.le k) j xc
              have hcn := HMJ.out.cnt xc
              generalize hF : bumps f (g4.take j) = F at HMJ hbo hcn
              have HFF := Lib.hid hF; clear hF
              have HCN := Lib.hid hcn; clear hcn
              have HMA := Lib.hid (HMJ.out.later ((Below.refl _ _).alloc (Nat.le_refl _) (Obj.cells #[Value.int .i64 xc, Value.int .i64 xu, Value.string xt] 53)))
              have HGA := Lib.hid (HGJ.out.alloc (Obj.cells #[Value.int .i64 xc, Value.int .i64 xu, Value.string xt] 53))
              go_wp2_with (first | (at_lookup; go_must (refine wpList_lookup_L rfl _ _ 56 false rfl 2 3 Try.underlying56 Try.underlying2 Try.zero3 rfl HMA.out.map rfl ?_); simp only [Bool.false_eq_true, if_false, HCN.out]) | (at_mapUpdate; go_must (refine wpList_update_L rfl _ _ _ 56 rfl 2 3 Try.underlying56 Try.underlying2 rfl HMA.out.map rfl ?_; intro w' hm' hgr'; have HMU := Lib.hid (HMA.out.upd (k := xc) hm' hgr'); have HGU := Lib.hid (HGA.out.kept hgr' (.inl (fun e => by have := (HGA.out.lt _ e).1; omega))); clear hm' hgr')))
              go_roundw
              case rel => exact ⟨j + 1, _, by omega, by go_num, by rw [HTA.out, bumps_snoc, HFF.out]; exact HMU.out, HGU.out⟩
              case measure => simp [intOf]; omega
            · obtain rfl : j = m4 := by omega
              have htk : g4.take j = g4 := List.take_of_length_le (by rw [HLJ.out]; omega)
              rw [htk] at HMJ
              clear htk
              obtain ⟨y0, y1, y2, y3⟩ := HMJ.out.box
              go_wp2
              clear y0 y1 y2 y3
              have hcap5 := (show Asks wr a2 n4 c2 l4 from HMJ.out.row.rd).bounds
              go_loopw [111] (fun t wr => ∃ (q : Nat), q ≤ n4 ∧ t = .int .i64 q ∧ Mem w wr last l4 (bumps f g4) mj a2 n4 c2) (fun t _ => n4 - (intOf t).toNat)
              case atStart => exact ⟨0, Nat.zero_le _, rfl, HMJ.out⟩
              case round =>
                clear HMJ HGJ
                obtain ⟨q, hq, rfl, hmq⟩ := hrel
                have HMQ := Lib.hid hmq
                have hlq := (show Asks wr a2 n4 c2 l4 from hmq.row.rd).len
                have HLQ := Lib.hid hlq; clear hlq
                have hsq := hmq.box.lt
                obtain ⟨⟨y0, y1, y2, y3⟩, _, _, _, hbq⟩ := hmq
                clear hbq
                by_cases hqt : q < n4
                · obtain ⟨bg, og, rfl, hbg, p0, p1, p2⟩ := (show Asks wr a2 n4 c2 l4 from HMQ.out.row.rd).at hqt
                  have hmem : l4[q]?.getD noAsk ∈ l4 := by
                    have : q < l4.length := by rw [HLQ.out]; exact hqt
                    simp [this]
                  have hla := HST.out _ hmem
                  obtain ⟨l5, n5, har⟩ := ans_stays (fitA_nodup HF4.out) hmem hla
                  generalize l4[q]?.getD noAsk = x at p0 p1 p2 har
                  clear hmem hla
                  obtain ⟨xc, xu, xt⟩ := x
                  dsimp only at p0 p1 p2 har
                  have HAR := Lib.hid har; clear har
                  have hba : Below wr.heap.size wr (wr.alloc (Obj.cells #[Value.int .i64 xc, Value.int .i64 xu, Value.string xt] 53)) := (Below.refl _ _).alloc (Nat.le_refl _) _
                  have HMA := Lib.hid (HMQ.out.later hba)
                  clear hba
                  go_wp2_with fail
                  refine (ansN_any HAR.out HMA.out.row.rd (by omega) (fitA_nodup HF4.out)).mono ?_
                  rintro e wz ⟨a5, c5, rfl, hr5, hb5⟩
                  have HMZ := Lib.hid ((HMA.out.later hb5).later ((Below.refl _ _).alloc (Nat.le_refl _) (Obj.cells #[Value.int .i64 last, Value.slice a5 n5 c5] 37)))
                  clear hr5 hb5
                  go_wp2
                  go_roundw
                  case rel => exact ⟨q + 1, by omega, by go_num, HMZ.out⟩
                  case measure => simp [intOf]; omega
                · obtain rfl : q = n4 := by omega
                  go_wp2
                  go_roundw
                  case rel =>
                    refine ⟨i + 1, now2, last, _, _, _, a2, q, c2, by omega, by go_num, rfl, rfl, HMQ.out, HF4.out, HEN.out, ?_, HN2.out⟩
                    have := HLE.out; have := HLN.out; simp; omega
                  case measure => simp [intOf]; omega
      · have hd : decide ((200 : Int) ≤ (i : Int)) = true := by simp; omega
        obtain ⟨b, off, rfl, hb, e0, e1, e2, e3, e4⟩ := HAT.out i hlt
        have f0 := cellAt hbel e0
        have f1 := cellAt hbel e1
        have f2 := cellAt hbel e2
        have f3 := cellAt hbel e3
        have f4 := cellAt hbel e4
        clear e0 e1 e2 e3 e4 hbel
        generalize rs[i]?.getD noTurn = t at f0 f1 f2 f3 f4
        obtain ⟨op, corr, topic, lat, til⟩ := t
        dsimp only at f0 f1 f2 f3 f4
        have hbo8 : Below wr.heap.size wr (wr.alloc (Obj.cells #[Value.int .i64 op, Value.int .i64 corr, Value.string topic, Value.int .i64 lat, Value.int .i64 til] 58)) := (Below.refl _ _).alloc (Nat.le_refl _) _
        have HMEx := Lib.hid (HME.out.later hbo8)
        clear HME hbo8
        go_upto_region 39 with (fail)
        clear f0 f1 f2 f3 f4 x0 x1 x2 x3 hb
        generalize wr.alloc (Obj.cells #[Value.int .i64 op, Value.int .i64 corr, Value.string topic, Value.int .i64 lat, Value.int .i64 til] 58) = WB at HMEx ⊢
        have HME := Lib.hid HMEx.out; clear HMEx
        obtain ⟨x0, x1, x2, x3⟩ := HME.out.box
        have hlB := HME.out.box.lt
        clear HL HAT
        rename World => W9
        have HL9 := Lib.hid HLN.out
        have hcap9 := (show Asks W9 a1 n1 c1 l from HME.out.row.rd).bounds
        have hat9 := fun k (hk : k < n1) => (show Asks W9 a1 n1 c1 l from HME.out.row.rd).at hk
        have HAT9 := Lib.hid hat9; clear hat9
        have hbm : Below W9.heap.size W9 (W9.alloc (.map #[] 0)) := (Below.refl _ _).alloc (Nat.le_refl _) _
        have HBM := Lib.hid hbm; clear hbm
        have HM9 := Lib.hid (MapAt.new W9)
        go_wp2
        go_loopw [133] (fun t wq => ∃ (j : Nat) (m2 : List (Int × Value)), j ≤ n1 ∧ t = .int .i64 j ∧ Below W9.heap.size W9 wq ∧ MapAt wq W9.heap.size m2 ∧ Cnt m2 (bumps (fun _ => 0) (l.take j))) (fun t _ => n1 - (intOf t).toNat)
        case atStart => exact ⟨0, [], Nat.zero_le _, rfl, HBM.out, HM9.out, Cnt.nil⟩
        case round =>
          clear HBM HM9
          obtain ⟨j, m2, hj, rfl, hb9, hm9, hc9⟩ := hrel
          have HB9 := Lib.hid hb9
          have HM9 := Lib.hid hm9
          have HC9 := Lib.hid hc9
          have hs9 := hm9.lt
          clear hb9 hm9 hc9
          by_cases hjt : j < n1
          · obtain ⟨bg, og, rfl, hbg, p0', p1', p2'⟩ := HAT9.out j hjt
            have p0 := cellAt HB9.out p0'
            have p1 := cellAt HB9.out p1'
            have p2 := cellAt HB9.out p2'
            clear p0' p1' p2'
            have hta := take_at l j (by rw [HL9.out]; exact hjt)
            generalize l[j]?.getD noAsk = x at p0 p1 p2 hta
            obtain ⟨xc, xu, xt⟩ := x
            dsimp only at p0 p1 p2
            have HTA := Lib.hid hta; clear hta
            have hbo := bumps_le (f := fun _ => 0) (fitA_nodup HGO.out.fit) (fun k => by simp) j xc
            have hcn := HC9.out xc
            generalize hF : bumps (fun _ => 0) (l.take j) = F at HC9 hbo hcn
            have HFF := Lib.hid hF; clear hF
            have HCN := Lib.hid hcn; clear hcn
            have HMA := Lib.hid (HM9.out.alloc (Obj.cells #[Value.int .i64 xc, Value.int .i64 xu, Value.string xt] 53))
            go_wp2_with (first | (at_lookup; go_must (refine wpList_lookup_L rfl _ _ 56 false rfl 2 3 Try.underlying56 Try.underlying2 Try.zero3 rfl HMA.out rfl ?_); simp only [Bool.false_eq_true, if_false, HCN.out]) | (at_mapUpdate; go_must (refine wpList_update_L rfl _ _ _ 56 rfl 2 3 Try.underlying56 Try.underlying2 rfl HMA.out rfl ?_; intro w' hm' hgr'; have HMU := Lib.hid (show MapAt w' W9.heap.size (putL xc (.int .i64 (F xc + 1)) m2) from hm'); have HBU := Lib.hid ((HB9.out.alloc (by omega) (Obj.cells #[Value.int .i64 xc, Value.int .i64 xu, Value.string xt] 53)).grown hgr' (by simp; omega) (fun k hk => by cases hk; omega)); clear hm' hgr')))
            go_roundw
            case rel => exact ⟨j + 1, _, by omega, by go_num, HBU.out, HMU.out, by rw [HTA.out, bumps_snoc, HFF.out]; exact HC9.out.put xc⟩
            case measure => simp [intOf]; omega
          · obtain rfl : j = n1 := by omega
            have htk : l.take j = l := List.take_of_length_le (by rw [HL9.out]; omega)
            rw [htk] at HC9
            clear htk
            rename World => WX
            have HMF := Lib.hid (HME.out.map.below HB9.out)
            have HCF := Lib.hid HME.out.cnt
            go_wp2
            go_loopw [22] (fun t wq => ∃ (k : Int), 1 ≤ k ∧ k ≤ last + 1 ∧ t = .int .i64 k ∧ wq = WX) (fun t _ => (last + 1 - intOf t).toNat)
            case atStart => exact ⟨1, by omega, by omega, rfl, rfl⟩
            case round =>
              obtain ⟨k, hk1, hk2, rfl, rfl⟩ := hrel
              by_cases hkl : k ≤ last
              · have hdk : decide (k ≤ last) = true := by simpa using hkl
                have hfk := HGO.out.ends k
                have hgk := bumps_eq (f := fun _ => 0) k (fitA_nodup HGO.out.fit)
                have hsum : f k + bumps (fun _ => 0) l k = 1 := by
                  rw [hfk, hgk]
                  by_cases hm : k ∈ Keys l
                  · rw [if_neg (fun x => x.2.2 hm), if_pos hm]; omega
                  · rw [if_pos ⟨hk1, hkl, hm⟩, if_neg hm]; omega
                clear hfk hgk
                have hc1 := HCF.out k
                have hc2 := HC9.out k
                generalize bumps (fun _ => 0) l k = gk at hsum hc2
                generalize f k = fk at hsum hc1
                have HC1 := Lib.hid hc1; clear hc1
                have HC2 := Lib.hid hc2; clear hc2
                go_wp2_with (at_lookup; first | (refine wpList_lookup_L rfl _ _ 56 false rfl 2 3 Try.underlying56 Try.underlying2 Try.zero3 rfl HMF.out rfl ?_; simp only [Bool.false_eq_true, if_false, HC1.out]) | (refine wpList_lookup_L rfl _ _ 56 false rfl 2 3 Try.underlying56 Try.underlying2 Try.zero3 rfl HM9.out rfl ?_; simp only [Bool.false_eq_true, if_false, HC2.out]))
                go_roundw
                case rel => exact ⟨k + 1, by omega, by omega, by go_num, by first | rfl | trivial⟩
                case measure => simp [intOf]; omega
              · have hdk : decide (k ≤ last) = false := by simpa using hkl
                go_wp2_with fail
                refine (awakeA _).mono ?_
                rintro e wy ⟨rfl, hby⟩
                go_wp2
                go_ret
                have h1 := HME.out.below.trans (HB9.out.mono HME.out.below.size)
                exact ⟨rfl, h1.trans (hby.mono h1.size)⟩
    · clear hbel
      clear HL HAT
      rename World => W9
      have HL9 := Lib.hid HLN.out
      have hcap9 := (show Asks W9 a1 n1 c1 l from HME.out.row.rd).bounds
      have hat9 := fun k (hk : k < n1) => (show Asks W9 a1 n1 c1 l from HME.out.row.rd).at hk
      have HAT9 := Lib.hid hat9; clear hat9
      have hbm : Below W9.heap.size W9 (W9.alloc (.map #[] 0)) := (Below.refl _ _).alloc (Nat.le_refl _) _
      have HBM := Lib.hid hbm; clear hbm
      have HM9 := Lib.hid (MapAt.new W9)
      go_wp2
      go_loopw [133] (fun t wq => ∃ (j : Nat) (m2 : List (Int × Value)), j ≤ n1 ∧ t = .int .i64 j ∧ Below W9.heap.size W9 wq ∧ MapAt wq W9.heap.size m2 ∧ Cnt m2 (bumps (fun _ => 0) (l.take j))) (fun t _ => n1 - (intOf t).toNat)
      case atStart => exact ⟨0, [], Nat.zero_le _, rfl, HBM.out, HM9.out, Cnt.nil⟩
      case round =>
        clear HBM HM9
        obtain ⟨j, m2, hj, rfl, hb9, hm9, hc9⟩ := hrel
        have HB9 := Lib.hid hb9
        have HM9 := Lib.hid hm9
        have HC9 := Lib.hid hc9
        have hs9 := hm9.lt
        clear hb9 hm9 hc9
        by_cases hjt : j < n1
        · obtain ⟨bg, og, rfl, hbg, p0', p1', p2'⟩ := HAT9.out j hjt
          have p0 := cellAt HB9.out p0'
          have p1 := cellAt HB9.out p1'
          have p2 := cellAt HB9.out p2'
          clear p0' p1' p2'
          have hta := take_at l j (by rw [HL9.out]; exact hjt)
          generalize l[j]?.getD noAsk = x at p0 p1 p2 hta
          obtain ⟨xc, xu, xt⟩ := x
          dsimp only at p0 p1 p2
          have HTA := Lib.hid hta; clear hta
          have hbo := bumps_le (f := fun _ => 0) (fitA_nodup HGO.out.fit) (fun k => by simp) j xc
          have hcn := HC9.out xc
          generalize hF : bumps (fun _ => 0) (l.take j) = F at HC9 hbo hcn
          have HFF := Lib.hid hF; clear hF
          have HCN := Lib.hid hcn; clear hcn
          have HMA := Lib.hid (HM9.out.alloc (Obj.cells #[Value.int .i64 xc, Value.int .i64 xu, Value.string xt] 53))
          go_wp2_with (first | (at_lookup; go_must (refine wpList_lookup_L rfl _ _ 56 false rfl 2 3 Try.underlying56 Try.underlying2 Try.zero3 rfl HMA.out rfl ?_); simp only [Bool.false_eq_true, if_false, HCN.out]) | (at_mapUpdate; go_must (refine wpList_update_L rfl _ _ _ 56 rfl 2 3 Try.underlying56 Try.underlying2 rfl HMA.out rfl ?_; intro w' hm' hgr'; have HMU := Lib.hid (show MapAt w' W9.heap.size (putL xc (.int .i64 (F xc + 1)) m2) from hm'); have HBU := Lib.hid ((HB9.out.alloc (by omega) (Obj.cells #[Value.int .i64 xc, Value.int .i64 xu, Value.string xt] 53)).grown hgr' (by simp; omega) (fun k hk => by cases hk; omega)); clear hm' hgr')))
          go_roundw
          case rel => exact ⟨j + 1, _, by omega, by go_num, HBU.out, HMU.out, by rw [HTA.out, bumps_snoc, HFF.out]; exact HC9.out.put xc⟩
          case measure => simp [intOf]; omega
        · obtain rfl : j = n1 := by omega
          have htk : l.take j = l := List.take_of_length_le (by rw [HL9.out]; omega)
          rw [htk] at HC9
          clear htk
          rename World => WX
          have HMF := Lib.hid (HME.out.map.below HB9.out)
          have HCF := Lib.hid HME.out.cnt
          go_wp2
          go_loopw [22] (fun t wq => ∃ (k : Int), 1 ≤ k ∧ k ≤ last + 1 ∧ t = .int .i64 k ∧ wq = WX) (fun t _ => (last + 1 - intOf t).toNat)
          case atStart => exact ⟨1, by omega, by omega, rfl, rfl⟩
          case round =>
            obtain ⟨k, hk1, hk2, rfl, rfl⟩ := hrel
            by_cases hkl : k ≤ last
            · have hdk : decide (k ≤ last) = true := by simpa using hkl
              have hfk := HGO.out.ends k
              have hgk := bumps_eq (f := fun _ => 0) k (fitA_nodup HGO.out.fit)
              have hsum : f k + bumps (fun _ => 0) l k = 1 := by
                rw [hfk, hgk]
                by_cases hm : k ∈ Keys l
                · rw [if_neg (fun x => x.2.2 hm), if_pos hm]; omega
                · rw [if_pos ⟨hk1, hkl, hm⟩, if_neg hm]; omega
              clear hfk hgk
              have hc1 := HCF.out k
              have hc2 := HC9.out k
              generalize bumps (fun _ => 0) l k = gk at hsum hc2
              generalize f k = fk at hsum hc1
              have HC1 := Lib.hid hc1; clear hc1
              have HC2 := Lib.hid hc2; clear hc2
              go_wp2_with (at_lookup; first | (refine wpList_lookup_L rfl _ _ 56 false rfl 2 3 Try.underlying56 Try.underlying2 Try.zero3 rfl HMF.out rfl ?_; simp only [Bool.false_eq_true, if_false, HC1.out]) | (refine wpList_lookup_L rfl _ _ 56 false rfl 2 3 Try.underlying56 Try.underlying2 Try.zero3 rfl HM9.out rfl ?_; simp only [Bool.false_eq_true, if_false, HC2.out]))
              go_roundw
              case rel => exact ⟨k + 1, by omega, by omega, by go_num, by first | rfl | trivial⟩
              case measure => simp [intOf]; omega
            · have hdk : decide (k ≤ last) = false := by simpa using hkl
              go_wp2_with fail
              refine (awakeA _).mono ?_
              rintro e wy ⟨rfl, hby⟩
              go_wp2
              go_ret
              have h1 := HME.out.below.trans (HB9.out.mono HME.out.below.size)
              exact ⟨rfl, h1.trans (hby.mono h1.size)⟩
end Go.Proofs.Ytoninfccmonaiaa
