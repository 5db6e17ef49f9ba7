/-
  The walk of the law DedupMore. Not a statement of the seat.
-/
import Derived.Test.YtoninfccmonaiaaLast
namespace Go.Proofs.Ytoninfccmonaiaa
open Go.RowKit

/-- what holds between two rounds of DedupMore: the boxes hold what is known by the smaller and by the greater one -/
structure MoreAt (w : World) (l1 l2 : List Int) (a1 : Option Addr) (c1 : Nat) (a2 : Option Addr) (c2 : Nat) (wr : World) : Prop where
  box1 : wr.cell? ⟨w.heap.size, 0, none⟩ = some (.slice a1 l1.length c1)
  free1 : wr.frozen? ⟨w.heap.size, 0, none⟩ = false
  box2 : wr.cell? ⟨w.heap.size + 1, 0, none⟩ = some (.slice a2 l2.length c2)
  free2 : wr.frozen? ⟨w.heap.size + 1, 0, none⟩ = false
  row1 : Row (w.heap.size + 2) wr 1 a1 l1.length c1 (I64 l1)
  row2 : Row (w.heap.size + 2) wr 1 a2 l2.length c2 (I64 l2)
  below : Below w.heap.size w wr
  size : w.heap.size + 2 ≤ wr.heap.size

theorem MoreAt.start (w : World) : MoreAt w [] [] none 0 none 0 ((w.alloc (Obj.cells #[Value.slice none 0 0] 24)).alloc (Obj.cells #[Value.slice none 0 0] 24)) :=
  ⟨by simp, by simp, by simp, by simp, Row.nil _ _ _, Row.nil _ _ _, ((Below.refl _ _).alloc (Nat.le_refl _) _).alloc (by simp) _, by simp⟩

theorem MoreAt.put1 {w : World} {l1 l2 k1 : List Int} {a1 : Option Addr} {c1 : Nat} {a2 : Option Addr} {c2 : Nat} {wr w1 : World} {b1 : Option Addr} {m d1 : Nat} (h : MoreAt w l1 l2 a1 c1 a2 c2 wr) (hb : Below wr.heap.size wr w1)
    (hr : Row wr.heap.size w1 1 b1 m d1 (I64 k1)) (hm : k1.length = m) : MoreAt w k1 l2 b1 d1 a2 c2 (w1.setCell ⟨w.heap.size, 0, none⟩ (.slice b1 m d1)) := by
  subst hm
  have hs := h.size
  have hs1 := hb.size
  have hx := cellAt hb h.box1
  have hy := cellAt hb h.box2
  refine ⟨World.cell?_setCell_same' _ _ _ (by rw [hx]; rfl), by rw [World.frozen?_setCell]; exact freeAt hb h.box1 h.free1, by rw [World.cell?_setCell_other _ _ _ _ (by simp)]; exact hy,
    by rw [World.frozen?_setCell]; exact freeAt hb h.box2 h.free2, (hr.mono (by omega)).put (by simp) _, (h.row2.below hb).put (by simp) _, (h.below.trans (hb.mono (by omega))).setCell (by simp) _, by rw [setCell_size]; omega⟩

theorem MoreAt.put2 {w : World} {l1 l2 k2 : List Int} {a1 : Option Addr} {c1 : Nat} {a2 : Option Addr} {c2 : Nat} {wr w1 : World} {b2 : Option Addr} {m d2 : Nat} (h : MoreAt w l1 l2 a1 c1 a2 c2 wr) (hb : Below wr.heap.size wr w1)
    (hr : Row wr.heap.size w1 1 b2 m d2 (I64 k2)) (hm : k2.length = m) : MoreAt w l1 k2 a1 c1 b2 d2 (w1.setCell ⟨w.heap.size + 1, 0, none⟩ (.slice b2 m d2)) := by
  subst hm
  have hs := h.size
  have hs1 := hb.size
  have hx := cellAt hb h.box1
  have hy := cellAt hb h.box2
  refine ⟨by rw [World.cell?_setCell_other _ _ _ _ (by simp)]; exact hx, by rw [World.frozen?_setCell]; exact freeAt hb h.box1 h.free1, World.cell?_setCell_same' _ _ _ (by rw [hy]; rfl),
    by rw [World.frozen?_setCell]; exact freeAt hb h.box2 h.free2, (h.row1.below hb).put (by simp) _, (hr.mono (by omega)).put (by simp) _, (h.below.trans (hb.mono (by omega))).setCell (by simp) _, by rw [setCell_size]; omega⟩

theorem two_mod (x : Int) (z : Nat) (hz : (z : Int) ≤ 30) : ∃ y : Nat, z ≤ y ∧ (y : Int) ≤ 60 ∧ wrap64 ((z : Int) + wrap64 ((IntKind.u64.wrap x).tmod 30)) = y := by
  obtain ⟨y, h, e⟩ := small_mod x 30 (by omega) (by omega)
  rw [e]
  refine ⟨z + y, by omega, by omega, ?_⟩
  rw [IntWalk.wrap64_in _ ⟨by omega, by omega⟩]
  omega

set_option maxHeartbeats 1000000 in
set_option maxRecDepth 100000 in
theorem more (sz mo : Int) (ids : List Int) (a : Option Addr) (n cap : Nat) (w : World) (hz : Ints w a n cap ids) :
    Calls Try.prog 5 #[.int .i64 sz, .int .i64 mo, .slice a n cap] w (RB w (.bool true)) := by
  have hlen := hz.len
  obtain ⟨hcap, hmax⟩ := hz.bounds
  have HL := Lib.hid hlen; clear hlen
  have hat := fun k (hk : k < n) => hz.at hk
  have HAT := Lib.hid hat; clear hat hz
  obtain ⟨z, hz1, hz2, hze⟩ := one_mod sz 30 (by omega) (by omega)
  obtain ⟨y, hy1, hy2, hye⟩ := two_mod mo z hz2
  have hy3 : y ≤ 60 := by omega
  have HZE := Lib.hid hze; clear hze
  have HYE := Lib.hid hye; clear hye
  go_enter Try.func5, Try.ntmps5
  go_wp2_with fail
  rw [HZE.out]
  rw [HYE.out]
  generalize wrap64 ((IntKind.u64.wrap sz).tmod 30) = y1
  generalize (IntKind.u64.wrap sz).tmod 30 = y2
  generalize IntKind.u64.wrap sz = y3
  generalize wrap64 ((IntKind.u64.wrap mo).tmod 30) = x1
  generalize (IntKind.u64.wrap mo).tmod 30 = x2
  generalize IntKind.u64.wrap mo = x3
  clear HZE HYE hz2 hy2
  go_loopw [27] (fun t wr => ∃ (k : Nat) (fr : List Int) (a1 a2 : Option Addr) (c1 c2 : Nat), k ≤ n ∧ k ≤ 200 ∧ t = .int .i64 k ∧ MoreAt w (lastN fr z) (lastN fr y) a1 c1 a2 c2 wr) (fun t _ => n - (intOf t).toNat)
  case atStart => exact ⟨0, [], none, none, 0, 0, Nat.zero_le _, Nat.zero_le _, rfl, by rw [lastN_nil, lastN_nil]; exact MoreAt.start w⟩
  case round =>
    obtain ⟨k, fr, a1, a2, c1, c2, hk, hk3, rfl, hat⟩ := hrel
    have HA := Lib.hid hat; clear hat
    by_cases hlt : k < n
    · by_cases hle : k < 200
      · obtain ⟨b, off, rfl, hb, hci⟩ := HAT.out k hlt
        have hci' : wr.cell? ⟨b, off + k, none⟩ = some (.int .i64 (ids[k]?.getD 0)) := (HA.out.below.cell (p := ⟨b, off + k, none⟩) hb).trans hci
        clear hci
        generalize hid : ids[k]?.getD 0 = id at hci'
        clear hid
        have hb3 : decide ((200 : Int) ≤ (k : Int)) = false := by simp; omega
        obtain ⟨m1, hm1⟩ : ∃ m, (lastN fr z).length = m := ⟨_, rfl⟩
        obtain ⟨m2, hm2⟩ : ∃ m, (lastN fr y).length = m := ⟨_, rfl⟩
        have hn1 : m1 ≤ 60 := by rw [← hm1, lastN_length]; omega
        have hn2 : m2 ≤ 60 := by rw [← hm2, lastN_length]; omega
        have hA := HA.out
        have hx1 : wr.cell? ⟨w.heap.size, 0, none⟩ = some (.slice a1 m1 c1) := by rw [← hm1]; exact hA.box1
        have hst1 : Row (w.heap.size + 2) wr 1 a1 m1 c1 (I64 (lastN fr z)) := by rw [← hm1]; exact hA.row1
        have HST1 := Lib.hid hst1; clear hst1
        obtain ⟨L1, hL1⟩ : ∃ L, seenL (lastN fr z) z id = L := ⟨_, rfl⟩
        obtain ⟨L2, hL2⟩ : ∃ L, seenL (lastN fr y) y id = L := ⟨_, rfl⟩
        obtain ⟨e1, he1⟩ : ∃ e, L1.length = e := ⟨_, rfl⟩
        obtain ⟨e2, he2⟩ : ∃ e, L2.length = e := ⟨_, rfl⟩
        have hq1 := seenL_last fr z id hz1
        have hq2 := seenL_last fr y id (by omega)
        rw [hL1] at hq1
        rw [hL2] at hq2
        have HM1 := Lib.hid hm1; clear hm1
        have HM2 := Lib.hid hm2; clear hm2
        have HL1 := Lib.hid hL1; clear hL1
        have HL2 := Lib.hid hL2; clear hL2
        have HE1 := Lib.hid he1; clear he1
        have HE2 := Lib.hid he2; clear he2
        have HQ1 := Lib.hid hq1; clear hq1
        have HQ2 := Lib.hid hq2; clear hq2
        have hmono : memB (lastN fr z) id = true → memB (lastN fr y) id = true := lastN_mono hy1
        have HMO := Lib.hid hmono; clear hmono hA
        obtain ⟨v1, hv1⟩ : ∃ v, memB (lastN fr z) id = v := ⟨_, rfl⟩
        obtain ⟨v2, hv2⟩ : ∃ v, memB (lastN fr y) id = v := ⟨_, rfl⟩
        have HV1 := Lib.hid hv1; clear hv1
        have HV2 := Lib.hid hv2; clear hv2
        go_wp2_with fail
        refine (seen_to HST1.out.rd (by omega) (by omega) HL1.out HE1.out HV1.out).mono ?_
        rintro e w1 ⟨b1, d1, rfl, hr1, hbb1⟩
        have hP := HA.out.put1 hbb1 hr1 HE1.out
        have hu1 := cellAt hbb1 hx1
        have hu2 := cellAt hbb1 HA.out.box2
        have hu3 := freeAt hbb1 hx1 HA.out.free1
        have HP := Lib.hid hP; clear hP hr1 hbb1 hx1
        rw [HM2.out] at hu2
        go_wp2_with fail
        clear hu1 hu2 hu3
        have hst2 : Row (w.heap.size + 2) (w1.setCell ⟨w.heap.size, 0, none⟩ (.slice b1 e1 d1)) 1 a2 m2 c2 (I64 (lastN fr y)) := by have := HP.out.row2; rw [HM2.out] at this; exact this
        have HST2 := Lib.hid hst2; clear hst2
        generalize hW : w1.setCell ⟨w.heap.size, 0, none⟩ (.slice b1 e1 d1) = W1 at HP HST2 ⊢
        clear hW
        refine (seen_to HST2.out.rd (by omega) (by omega) HL2.out HE2.out HV2.out).mono ?_
        rintro e w2 ⟨b2, d2, rfl, hr2, hbb2⟩
        have hP2 := HP.out.put2 hbb2 hr2 HE2.out
        have hu2 := cellAt hbb2 HP.out.box2
        have hu3 := freeAt hbb2 HP.out.box2 HP.out.free2
        have HP2 := Lib.hid hP2; clear hP2 hr2 hbb2
        rw [HM2.out] at hu2
        cases v1 <;> cases v2
        · go_wp2_with fail
          have h1 := HQ1.out
          have h2 := HQ2.out
          rw [HV1.out, if_neg (by simp)] at h1
          rw [HV2.out, if_neg (by simp)] at h2
          go_roundw
          case rel => exact ⟨k + 1, fr ++ [id], b1, b2, d1, d2, by omega, by omega, by go_num, by have := HP2.out; rw [h1, h2] at this; exact this⟩
          case measure => simp [intOf]; omega
        · go_wp2_with fail
          clear hu2 hu3
          refine (awake _).mono ?_
          rintro e w3 ⟨rfl, hb4⟩
          have HB4 := Lib.hid hb4; clear hb4
          go_wp2
          go_ret
          exact ⟨rfl, HP2.out.below.trans (HB4.out.mono HP2.out.below.size)⟩
        · exact absurd (HMO.out HV1.out) (by rw [HV2.out]; simp)
        · go_wp2_with fail
          have h1 := HQ1.out
          have h2 := HQ2.out
          rw [HV1.out, if_pos rfl] at h1
          rw [HV2.out, if_pos rfl] at h2
          go_roundw
          case rel => exact ⟨k + 1, fr, b1, b2, d1, d2, by omega, by omega, by go_num, by have := HP2.out; rw [h1, h2] at this; exact this⟩
          case measure => simp [intOf]; omega
      · have hb3 : decide ((200 : Int) ≤ (k : Int)) = true := by simp; omega
        obtain ⟨b, off, rfl, hb, hci⟩ := HAT.out k hlt
        have hci' : wr.cell? ⟨b, off + k, none⟩ = some (.int .i64 (ids[k]?.getD 0)) := (HA.out.below.cell (p := ⟨b, off + k, none⟩) hb).trans hci
        clear hci
        go_wp2_with fail
        refine (awake _).mono ?_
        rintro e w2 ⟨rfl, hb2⟩
        have HB2 := Lib.hid hb2; clear hb2
        go_wp2
        go_ret
        exact ⟨rfl, HA.out.below.trans (HB2.out.mono (by have := HA.out.size; omega))⟩
    · go_wp2_with fail
      refine (awake _).mono ?_
      rintro e w2 ⟨rfl, hb2⟩
      have HB2 := Lib.hid hb2; clear hb2
      go_wp2
      go_ret
      exact ⟨rfl, HA.out.below.trans (HB2.out.mono (by have := HA.out.size; omega))⟩
end Go.Proofs.Ytoninfccmonaiaa
