/-
  The document's count of an error's parts (walk). Not a statement of the seat.
-/
import Derived.Test.YtbldidiibkcelaaGreatDoorELook
namespace Go.Proofs.YtbldidiibkcelaaGreatDoor
open Go.RowKit

/-- the parts of a row behind n -/
def ecntL : Eo → Nat → Nat → Nat → Nat
  | .nil, _, _, n => n
  | .cons _ _ _ _ _ _ kids rest, deep, left, n =>
    if left < n + (if 16 < deep + 1 ∨ left - n = 0 then 4097 else ecntL kids (deep + 1) (left - n) 1) then 4097
    else ecntL rest deep left (n + (if 16 < deep + 1 ∨ left - n = 0 then 4097 else ecntL kids (deep + 1) (left - n) 1))
def ecnt (kids : Eo) (deep left : Nat) : Nat := if 16 < deep ∨ left = 0 then 4097 else ecntL kids deep left 1
theorem ecntL_cons (k i c : Int) (t : Bs) (b : Dt) (cs : List Int) (kids rest : Eo) (deep left n : Nat) : ecntL (.cons k i c t b cs kids rest) deep left n =
    if left < n + ecnt kids (deep + 1) (left - n) then 4097 else ecntL rest deep left (n + ecnt kids (deep + 1) (left - n)) := by
  rw [ecntL]
  rfl
theorem ecntL_le : ∀ (f : Eo) (deep left n : Nat), n ≤ 4097 → left ≤ 4096 → ecntL f deep left n ≤ 4097
  | .nil, _, _, n, h, _ => h
  | .cons k i c t b cs kids rest, deep, left, n, h, hl => by
    rw [ecntL_cons]
    split
    · exact Nat.le_refl _
    · exact ecntL_le rest _ _ _ (by omega) hl
theorem ecnt_le (kids : Eo) (deep left : Nat) (hl : left ≤ 4096) : ecnt kids deep left ≤ 4097 := by
  unfold ecnt
  split
  · exact Nat.le_refl _
  · exact ecntL_le _ _ _ _ (by omega) hl

def ECOK (kids : Eo) : Prop := ∀ (k i c : Int) (t : Bs) (b : Dt) (bl : Option Addr) (bn bc : Nat) (cl : Option Addr) (cn cc : Nat) (l : Option Addr) (n cap : Nat) (S : Nat → Prop) (deep left : Nat) (w : World),
  EoAt S w kids l n cap → (∀ x, S x → x < w.heap.size) → deep ≤ 17 → left ≤ 4096 →
  Calls Tryz.prog 38 #[vE k i c t b bl bn bc cl cn cc l n cap, .int .i64 (deep : Nat), .int .i64 (left : Nat)] w (fun e w' => e = .returned (.int .i64 (ecnt kids deep left : Nat)) ∧ Below w.heap.size w w')
def ECRel (kids : Eo) (deep left : Nat) (w : World) (res : Nat) (t18 t7 : Value) (wr : World) : Prop :=
  ∃ (dn rest : Eo) (n : Nat), t18 = .int .i64 (dn.len : Nat) ∧ t7 = .int .i64 (n : Nat) ∧ kids = dn.app rest ∧ Below w.heap.size w wr ∧ n ≤ left ∧ ecntL rest deep left n = res

set_option maxHeartbeats 8000000 in
set_option maxRecDepth 100000 in
theorem ecountN {kids : Eo} (hall : kids.All ECOK) : ECOK kids := by
  intro k i c t b bl bn bc cl cn cc l n cap S deep left w hF hS hd hl
  generalize hres : ecnt kids deep left = res
  have hlen := hF.len
  unfold ecnt at hres
  have hA := ebox_blk w k i c t b bl bn bc cl cn cc l n cap
  have hBA := ebox_below w k i c t b bl bn bc cl cn cc l n cap
  unfold vE
  go_enter Tryz.func38, Tryz.ntmps38
  go_upto_region 1 with (fail)
  change Code.wp _ _ _ _ (ebox w k i c t b bl bn bc cl cn cc l n cap)
  generalize ebox w k i c t b bl bn bc cl cn cc l n cap = w1 at *
  have b10 := hA.cell 10 rfl
  have HF := Lib.hid hF
  have HS := Lib.hid hS
  have HBA := Lib.hid hBA
  clear hA hBA hF hS
  by_cases h1 : 16 < deep
  · have h1i : (16 : Int) < (deep : Int) := by omega
    rw [if_pos (.inl h1)] at hres
    subst hres
    clear h1
    go_wp2_with fail
    go_ret
    exact ⟨rfl, HBA.out⟩
  · have h1i : ¬ (16 : Int) < (deep : Int) := by omega
    by_cases h2 : left = 0
    · rw [if_pos (.inr h2)] at hres
      subst hres
      subst h2
      clear h1
      go_wp2_with fail
      go_ret
      exact ⟨rfl, HBA.out⟩
    · have h2i : ¬ (left : Int) ≤ 0 := by omega
      rw [if_neg (by omega)] at hres
      obtain ⟨d1, hd1⟩ : ∃ d1, d1 = deep + 1 := ⟨_, rfl⟩
      have hd17 : d1 ≤ 17 := by omega
      have hd1i : (deep : Int) + 1 = (d1 : Int) := by omega
      have H0 := Lib.hid (show ECRel kids deep left w res (.int .i64 0) (.int .i64 1) w1 from ⟨.nil, kids, 1, rfl, rfl, rfl, HBA.out, by omega, hres⟩)
      have HALL := Lib.hid hall
      have HLEN := Lib.hid hlen
      have HD1 := Lib.hid hd1
      clear hres hall hlen h1 h2 hd1
      go_wp2_with fail
      go_loopw [18, 7] (fun t18 t7 wr => ECRel kids deep left w res t18 t7 wr ∧ wr.cell? ⟨w.heap.size, 10, none⟩ = some (.slice l n cap) ∧ Below w1.heap.size w1 wr) (fun t18 _ _ => n - (intOf t18).toNat)
      case atStart => exact ⟨H0.out, b10, Below.refl _ _⟩
      case round =>
        obtain ⟨⟨dn, rest, m, rfl, rfl, hk, hB, hml, hq⟩, c10, hB1⟩ := hrel
        have hlen := HLEN.out
        rw [hk, Eo.len_app] at hlen
        have HB := Lib.hid hB
        have HB1 := Lib.hid hB1
        have hFr : EoAt S wr kids l n cap := HF.out.same (fun x hx hlt => hB.block x (HS.out x hx)) (fun x hx _ => hx)
        clear hB hB1 H0 b10
        cases rest with
        | nil =>
          have hj : ¬ (dn.len : Int) < (n : Int) := by have : Eo.len .nil = 0 := rfl; omega
          rw [ecntL] at hq
          have HR := Lib.hid hq
          clear hq hk hlen hFr
          go_wp2_with fail
          go_ret
          rw [← HR.out]
          exact ⟨rfl, HB.out⟩
        | cons k2 i2 c2 t2 b2 cs2 ks rest2 =>
          have hlr : (Eo.cons k2 i2 c2 t2 b2 cs2 ks rest2).len = rest2.len + 1 := rfl
          have hjn : dn.len < n := by omega
          have hj : (dn.len : Int) < (n : Int) := by omega
          rw [hk] at hFr
          obtain ⟨bb, off, bl2, bn2, bc2, cl2, cn2, cc2, l2, n2, cap2, rfl, hE2, hcell, hnb, _⟩ := hFr.elem
          have v0 := hcell 0 (by omega); have v1 := hcell 1 (by omega); have v2 := hcell 2 (by omega); have v3 := hcell 3 (by omega); have v4 := hcell 4 (by omega); have v5 := hcell 5 (by omega); have v6 := hcell 6 (by omega); have v7 := hcell 7 (by omega); have v8 := hcell 8 (by omega); have v9 := hcell 9 (by omega); have v10 := hcell 10 (by omega)
          simp only [V11, List.getElem?_cons_zero, List.getElem?_cons_succ, Nat.add_zero] at v0 v1 v2 v3 v4 v5 v6 v7 v8 v9 v10
          have hCOK : ECOK ks := by
            have hal := HALL.out
            rw [hk] at hal
            exact (Eo.All.split dn hal).1
          rw [ecntL_cons, ← HD1.out] at hq
          obtain ⟨lf, hlf⟩ : ∃ lf, lf = left - m := ⟨_, rfl⟩
          rw [← hlf] at hq
          have hlfi : (left : Int) - (m : Int) = (lf : Int) := by omega
          have hC := hCOK k2 i2 c2 t2 b2 bl2 bn2 bc2 cl2 cn2 cc2 l2 n2 cap2 S d1 lf wr hE2.2.2 (fun x hx => Nat.lt_of_lt_of_le (HS.out x hx) HB.out.size) hd17 (by omega)
          unfold vE at hC
          have hcm := ecnt_le ks d1 lf (by omega)
          have HKK := Lib.hid hk
          have HJ := Lib.hid hjn
          generalize ecnt ks d1 lf = r1 at *
          have HC := Lib.hid hC
          obtain ⟨n1, hn1⟩ : ∃ n1, n1 = m + r1 := ⟨_, rfl⟩
          have hn1i : (m : Int) + (r1 : Int) = (n1 : Int) := by omega
          rw [← hn1] at hq
          have HNM := Lib.hid hn1
          have HLF := Lib.hid hlf
          clear hC hE2 hCOK hk hcell hlen hlr hjn hn1 hlf hFr
          generalize hjj : dn.len = j at *
          have HJJ := Lib.hid hjj
          clear hjj
          by_cases hc1 : left < n1
          · have hc1i : (left : Int) < (n1 : Int) := by omega
            rw [if_pos hc1] at hq
            have HR := Lib.hid hq
            clear hq
            go_wp2_with (go_at_call 38; (with_reducible refine HC.out.mono ?_); rintro e5 w5 ⟨rfl, hB5⟩)
            go_ret
            rw [← HR.out]
            exact ⟨rfl, HB.out.trans (hB5.mono HB.out.size)⟩
          · have hc1i : ¬ (left : Int) < (n1 : Int) := by omega
            rw [if_neg hc1] at hq
            have HR := Lib.hid hq
            clear hq
            go_wp2_with (go_at_call 38; (with_reducible refine HC.out.mono ?_); rintro e5 w5 ⟨rfl, hB5⟩; have HB5 := Lib.hid hB5; clear hB5)
            go_roundw
            case rel =>
              refine ⟨⟨dn.app (.cons k2 i2 c2 t2 b2 cs2 ks .nil), rest2, n1, ?_, rfl, ?_, HB.out.trans (HB5.out.mono HB.out.size), by omega, HR.out⟩, cellAt HB5.out c10, HB1.out.trans (HB5.out.mono HB1.out.size)⟩
              · rw [Eo.len_app, HJJ.out, show (Eo.cons k2 i2 c2 t2 b2 cs2 ks .nil).len = 1 from rfl]; go_num
              · rw [Eo.app_assoc]; exact HKK.out
            case measure => simp [intOf]; have := HJ.out; omega
theorem ecountAll : ∀ f : Eo, f.All ECOK
  | .nil => trivial
  | .cons _ _ _ _ _ _ kids rest => ⟨ecountN (ecountAll kids), ecountAll rest⟩
theorem ecountG (kids : Eo) : ECOK kids := ecountN (ecountAll kids)
end Go.Proofs.YtbldidiibkcelaaGreatDoor
