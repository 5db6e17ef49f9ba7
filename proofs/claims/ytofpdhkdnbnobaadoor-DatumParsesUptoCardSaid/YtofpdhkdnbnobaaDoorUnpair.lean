/-
  unpaired: digits, two a byte (walk). Not a statement of the seat.
-/
import Derived.Test.YtofpdhkdnbnobaaDoorNumber
namespace Go.Proofs.YtofpdhkdnbnobaaDoor
open Go.RowKit

def B8 (b : Bs) : List Value := b.map (fun x => Value.int .u8 (x.toNat : Int))
theorem B8_length (b : Bs) : (B8 b).length = b.length := by simp [B8]
theorem B8_append (a b : Bs) : B8 (a ++ b) = B8 a ++ B8 b := by simp [B8]
theorem B8_one (b : Bs) : ∀ v ∈ B8 b, v.oneCell' = true := by
  intro v hv
  simp only [B8, List.mem_map] at hv
  obtain ⟨x, _, rfl⟩ := hv
  rfl

theorem byteInfo : (Tryd.prog.info? 5).map (fun i => (i.zero, i.size, i.bytes)) = some (some (.int .u8 0), 1, 1) := by kernel_rfl

theorem indexByte_lt (l : Bs) (c : UInt8) : Go.Lib.indexByte l c < l.length ∨ l = [] := by
  induction l with
  | nil => exact .inr rfl
  | cons b r ih =>
    left
    have h0 : Go.Lib.indexByte r c < r.length ∨ r = [] := ih
    have h1 : r = [] → Go.Lib.indexByte r c = -1 := fun h => by subst h; rfl
    unfold Go.Lib.indexByte
    simp only [List.length_cons]
    split
    · omega
    · split
      · omega
      · rename_i h2 h3
        rcases h0 with h0 | h0
        · omega
        · have := h1 h0; simp_all

theorem hex_or : ∀ i, i < 16 → ∀ j, j < 16 → bits BinOp.or IntKind.i64 (wrap64 ((i : Nat) * 16 : Int)) (j : Nat) % 256 = ((i * 16 + j : Nat) : Int) := by decide +kernel

theorem unpairM_two {x y : UInt8} {r : Bs} (hx : 0 ≤ Go.Lib.indexByte hexD x) (hy : 0 ≤ Go.Lib.indexByte hexD y) : unpairM (x :: y :: r) = (unpairM r).map (byteOf x y :: ·) := by
  rw [unpairM, if_neg (by omega)]
theorem unpairM_bad {x y : UInt8} {r : Bs} (h : Go.Lib.indexByte hexD x < 0 ∨ Go.Lib.indexByte hexD y < 0) : unpairM (x :: y :: r) = none := by
  rw [unpairM, if_pos h]

def URel (L : Bs) (w : World) (t4 t5 : Value) (wr : World) : Prop :=
  ∃ k bs a cap, t5 = .int .i64 ((2 * k : Nat) : Int) ∧ t4 = .slice a k cap ∧ bs.length = k ∧ Row w.heap.size wr 1 a k cap (B8 bs) ∧ Below w.heap.size w wr ∧ 2 * k ≤ L.length ∧
    unpairM L = (unpairM (L.drop (2 * k))).map (bs ++ ·)

/-- what unpaired comes to -/
def UP (s : ByteArray) (w : World) (e : Ending) (w' : World) : Prop :=
  ∃ a n cap ok bs, e = .returned (.tuple #[.slice a n cap, .bool ok]) ∧ bs.length = n ∧ Row w.heap.size w' 1 a n cap (B8 bs) ∧ Below w.heap.size w w' ∧
      ((ok = false ∧ unpairM s.data.toList = none) ∨ (ok = true ∧ unpairM s.data.toList = some bs))
set_option maxHeartbeats 4000000 in
set_option maxRecDepth 100000 in
theorem unpairN {s : ByteArray} {w : World} (hs : s.size ≤ 1000000000000) :
    Calls Tryd.prog 68 #[.string s] w (UP s w) := by
  obtain ⟨i0, hi, hy0, hy1, hy2⟩ := info_parts byteInfo
  have hsz := Lib.size_eq s
  have HSZ := Lib.hid hsz
  have H0 := Lib.hid (show URel s.data.toList w (.slice none 0 0) (.int .i64 0) w from ⟨0, [], none, 0, rfl, rfl, rfl, Row.nil _ _ _, Below.refl _ _, by omega, by simp⟩)
  clear hsz
  go_enter Tryd.func68, Tryd.ntmps68
  go_wp2_with fail
  go_loopw [4, 5] (fun t4 t5 wr => URel s.data.toList w t4 t5 wr) (fun _ t5 _ => s.size - (intOf t5).toNat)
  case atStart => exact H0.out
  case round =>
    obtain ⟨k, bs, a, cap, rfl, rfl, hbk, hR, hB, hk, hu⟩ := hrel
    have HR := Lib.hid hR
    have HB := Lib.hid hB
    have HU := Lib.hid hu
    have HBK := Lib.hid hbk
    rw [← HSZ.out] at hk
    clear hu hR hB H0 hbk
    by_cases h1 : 2 * k + 1 < s.size
    · have h1i : ((2 * k : Nat) : Int) + 1 < (s.size : Int) := by omega
      have hw1 : IntKind.i64.wrap (((2 * k : Nat) : Int) + 1) = ((2 * k + 1 : Nat) : Int) := by
        rw [wrapI (by omega) (by omega)]; omega
      have hq : ∀ (c : UInt8) w', Calls Tryd.prog 82 #[.string ⟨#[48, 49, 50, 51, 52, 53, 54, 55, 56, 57, 97, 98, 99, 100, 101, 102]⟩, .int .u8 (c.toNat : Int)] w' (fun e w'' => e = .returned (.int .i64 (Go.Lib.indexByte hexD c)) ∧ w'' = w') := fun c w' => by
        have := Tryd.strings_IndexByte ⟨#[48, 49, 50, 51, 52, 53, 54, 55, 56, 57, 97, 98, 99, 100, 101, 102]⟩ (c.toNat : Int) w'
        rw [byte_back] at this
        exact this
      have hqp := fun w' (h : 2 * k < s.size) => hq s[2 * k] w'
      have hqq := fun w' (h : 2 * k + 1 < s.size) => hq s[2 * k + 1] w'
      clear hq
      generalize hp : 2 * k = p at *
      have hpi : (p : Int) < (s.size : Int) := by omega
      have hpn : p < s.size := by omega
      generalize hq1 : p + 1 = q at *
      have hpi2 : (q : Int) < (s.size : Int) := by omega
      have hdr : s.data.toList.drop p = s[p] :: s[q] :: s.data.toList.drop (p + 2) := by
        rw [drop_at (by rw [← HSZ.out]; exact hpn), drop_at (i := p + 1) (by rw [← HSZ.out]; omega)]
        subst hq1
        simp [ByteArray.getElem_eq_getElem_data]
      have HDR := Lib.hid hdr
      clear hdr
      by_cases h2 : Go.Lib.indexByte hexD s[p] < 0 ∨ Go.Lib.indexByte hexD s[q] < 0
      · have hf : unpairM s.data.toList = none := by rw [HU.out, HDR.out, unpairM_bad h2]; rfl
        have HF := Lib.hid hf
        clear hf
        have h3 : (decide (Go.Lib.indexByte hexD s[p] < 0) || decide (Go.Lib.indexByte hexD s[q] < 0)) = true := by simpa using h2
        have hqn : q < s.size := by omega
        replace hqp := fun w' => hqp w' hpn
        replace hqq := fun w' => hqq w' hqn
        generalize Go.Lib.indexByte hexD s[p] = x at *
        generalize Go.Lib.indexByte hexD s[q] = y at *
        clear h2
        cases hxx : decide (x < 0)
        · rw [hxx, Bool.false_or] at h3
          go_wp2_with fail
          go_quiet (first | exact Calls.quiet_of_same (hqp _) | exact Calls.quiet_of_same (hqq _))
          go_wp2_with fail
          go_ret2
          exact ⟨none, 0, 0, false, [], rfl, rfl, Row.nil _ _ _, (HB.out.trans (below_drewN _ _ _)), .inl ⟨rfl, HF.out⟩⟩
        · go_wp2_with fail
          go_quiet (first | exact Calls.quiet_of_same (hqp _) | exact Calls.quiet_of_same (hqq _))
          go_wp2_with fail
          go_ret2
          exact ⟨none, 0, 0, false, [], rfl, rfl, Row.nil _ _ _, (HB.out.trans (below_drewN _ _ _)), .inl ⟨rfl, HF.out⟩⟩
      · have hqn : q < s.size := by omega
        have hix := indexByte_lt hexD s[p]
        have hiy := indexByte_lt hexD s[q]
        have hl16 : hexD.length = 16 := rfl
        obtain ⟨x, hx⟩ : ∃ x : Nat, Go.Lib.indexByte hexD s[p] = (x : Int) := ⟨(Go.Lib.indexByte hexD s[p]).toNat, by omega⟩
        obtain ⟨y, hy⟩ : ∃ y : Nat, Go.Lib.indexByte hexD s[q] = (y : Int) := ⟨(Go.Lib.indexByte hexD s[q]).toNat, by omega⟩
        have hxy : x < 16 ∧ y < 16 := by
          have : hexD ≠ [] := by simp [hexD]
          rcases hix with hix | hix
          · rcases hiy with hiy | hiy
            · omega
            · exact absurd hiy this
          · exact absurd hix this
        have hbt : ((byteOf s[p] s[q]).toNat : Int) = ((x * 16 + y : Nat) : Int) := by
          unfold byteOf
          rw [hx, hy]
          simp only [Int.toNat_natCast]
          rw [UInt8.toNat_ofNat_of_lt' (by show _ < 256; omega)]
        have hor := hex_or x hxy.1 y hxy.2
        rw [← hbt] at hor
        have hun : unpairM s.data.toList = (unpairM (s.data.toList.drop (p + 2))).map ((bs ++ [byteOf s[p] s[q]]) ++ ·) := by
          rw [HU.out, HDR.out, unpairM_two (x := s[p]) (y := s[q]) (by rw [hx]; exact Int.natCast_nonneg _) (by rw [hy]; exact Int.natCast_nonneg _)]
          cases unpairM (s.data.toList.drop (p + 2)) <;> simp
        have HUN := Lib.hid hun
        have HBT := Lib.hid hbt
        have hxn : decide (Go.Lib.indexByte hexD s[p] < 0) = false := by rw [hx]; simp
        have hyn : decide (Go.Lib.indexByte hexD s[q] < 0) = false := by rw [hy]; simp
        replace hqp := fun w' => hqp w' hpn
        replace hqq := fun w' => hqq w' hqn
        rw [← hx, ← hy] at hor
        generalize byteOf s[p] s[q] = c at *
        have hl9 : k + 1 ≤ 1000000000000 := by omega
        have HPQ := Lib.hid (show 2 * k = p ∧ p + 1 = q from ⟨hp, hq1⟩)
        clear hix hiy hx hy hxy hbt hun HU HDR hl16 HBT h2 hp hq1
        generalize Go.Lib.indexByte hexD s[p] = x' at *
        generalize Go.Lib.indexByte hexD s[q] = y' at *
        have hle := HB.out.size
        have HLE := Lib.hid hle
        clear hle
        go_wp2_with fail
        go_quiet (first | exact Calls.quiet_of_same (hqp _) | exact Calls.quiet_of_same (hqq _))
        have HR9 := fun o => Lib.hid ((HR.out.below (below_drewN wr.heap.size wr nq)).alloc o)
        have HS9 := Lib.hid (Src.oneAt (P := Tryd.prog) (w := wr.drewN nq) (tx := 53) Tryd.underlying53 (.int .u8 (c.toNat : Int)) 5 rfl (g := wr.heap.size) (by simp))
        go_wp2_with (at_builtin; refine wpList_append_row rfl _ _ 53 53 rfl 5 i0 (.int .u8 0) 1 1 Tryd.underlying53 hi hy0 hy1 hy2 rfl rfl (HR9 _).out 1 _ HS9.out (by unfold maxLen; omega) (by omega) (by have := HLE.out; simp; omega) ?_; intro a4 c4 w4 hrow hgr hbk4; have HR4 := Lib.hid hrow; have HG4 := Lib.hid hgr; clear hrow hgr hbk4)
        go_roundw
        case rel =>
          have h7 := HPQ.out
          refine ⟨k + 1, bs ++ [c], a4, c4, by rw [← h7.1]; go_num, by first | rfl | trivial, by rw [List.length_append, HBK.out]; rfl, by rw [B8_append]; exact HR4.out, ?_, by rw [← HSZ.out]; omega, by rw [HUN.out, ← h7.1, Nat.mul_succ]⟩
          have h8 := HB.out.trans (below_drewN w.heap.size wr nq)
          exact (h8.alloc h8.size _).grown HG4.out (Nat.le_trans h8.size (by simp)) (fun x hx => (HR.out.lt x hx).1)
        case measure => simp [intOf]; omega
    · have hk2 : s.size < 2 * k + 2 := by omega
      have h1i : ¬ ((2 * k : Nat) : Int) + 1 < (s.size : Int) := by omega
      have hw1 : IntKind.i64.wrap (((2 * k : Nat) : Int) + 1) = ((2 * k : Nat) : Int) + 1 := by
        rw [wrapI (by omega) (by omega)]
      by_cases h3 : s.size = 2 * k
      · have hu : unpairM s.data.toList = some bs := by
          rw [HU.out, List.drop_of_length_le (by rw [← HSZ.out]; omega)]; simp [unpairM]
        have hm : ((s.size : Nat) : Int).tmod 2 = 0 := by rw [show (2 : Int) = ((2 : Nat) : Int) from rfl, ← Int.ofNat_tmod]; omega
        have HUU := Lib.hid hu
        clear hu
        go_wp2_with fail
        go_ret2
        exact ⟨a, k, cap, true, bs, rfl, HBK.out, HR.out, HB.out, .inr ⟨rfl, HUU.out⟩⟩
      · have hu : unpairM s.data.toList = none := by
          have h4 : (s.data.toList.drop (2 * k)).length = 1 := by rw [List.length_drop, ← HSZ.out]; omega
          rw [HU.out]
          match h5 : s.data.toList.drop (2 * k), h4 with
          | [x], _ => simp [unpairM]
        have hm : ((s.size : Nat) : Int).tmod 2 = 1 := by rw [show (2 : Int) = ((2 : Nat) : Int) from rfl, ← Int.ofNat_tmod]; omega
        have HUU := Lib.hid hu
        clear hu
        go_wp2_with fail
        go_ret2
        exact ⟨a, k, cap, false, bs, rfl, HBK.out, HR.out, HB.out, .inl ⟨rfl, HUU.out⟩⟩
end Go.Proofs.YtofpdhkdnbnobaaDoor
