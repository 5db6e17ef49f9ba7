/-
  The document's count of an error's parts (walk). Not a statement of the seat.
-/
import Derived.Test.YtbldidiibkcelaaGreatDoorTELook
namespace Go.Proofs.YtbldidiibkcelaaGreatDoor
open Go.RowKit

/-- the parts of a row behind n -/
def ecntL : Eo → Nat → Nat → Nat → Nat
  | .nil, _, _, n => n
  | .cons _ _ _ _ _ _ kids rest, deep, left, n =>
    if left < n + (if 16 < deep + 1 ∨ left - n = 0 then 4097 else ecntL kids (deep + 1) (left - n) 1) then 4097
    else ecntL rest deep left (n + (if 16 < deep + 1 ∨ left - n = 0 then 4097 else ecntL kids (deep + 1) (left - n) 1))
def ecnt (kids : Eo) (deep left : Nat) : Nat := if 16 < deep ∨ left = 0 then 4097 else ecntL kids deep left 1
theorem ecntL_cons (k i c : Int) (t : Bs) (b : Dt) (cs : List Int) (kids rest : Eo) (deep left n : Nat) : ecntL (.cons k i c t b cs kids rest) deep left n =
    if left < n + ecnt kids (deep + 1) (left - n) then 4097 else ecntL rest deep left (n + ecnt kids (deep + 1) (left - n)) := by
  rw [ecntL]
  rfl
theorem ecntL_le : ∀ (f : Eo) (deep left n : Nat), n ≤ 4097 → left ≤ 4096 → ecntL f deep left n ≤ 4097
  | .nil, _, _, n, h, _ => h
  | .cons k i c t b cs kids rest, deep, left, n, h, hl => by
    rw [ecntL_cons]
    split
    · exact Nat.le_refl _
    · exact ecntL_le rest _ _ _ (by omega) hl
theorem ecnt_le (kids : Eo) (deep left : Nat) (hl : left ≤ 4096) : ecnt kids deep left ≤ 4097 := by
  unfold ecnt
  split
  · exact Nat.le_refl _
  · exact ecntL_le _ _ _ _ (by omega) hl
def ECOK (kids : Eo) : Prop := ∀ (k i c : Int) (t : Bs) (b : Dt) (bl : Option Addr) (bn bc : Nat) (cl : Option Addr) (cn cc : Nat) (l : Option Addr) (n cap : Nat) (S : Nat → Prop) (deep left : Nat) (w : World),
  EoAt S w kids l n cap → (∀ x, S x → x < w.heap.size) → deep ≤ 17 → left ≤ 4096 →
  Calls Tryz.prog 38 #[vE k i c t b bl bn bc cl cn cc l n cap, .int .i64 (deep : Nat), .int .i64 (left : Nat)] w (fun e w' => e = .returned (.int .i64 (ecnt kids deep left : Nat)) ∧ Below w.heap.size w w')
def ECRel (kids : Eo) (deep left : Nat) (w : World) (res : Nat) (t18 t7 : Value) (wr : World) : Prop :=
  ∃ (dn rest : Eo) (n : Nat), t18 = .int .i64 (dn.len : Nat) ∧ t7 = .int .i64 (n : Nat) ∧ kids = dn.app rest ∧ Below w.heap.size w wr ∧ n ≤ left ∧ ecntL rest deep left n = res
set_option maxHeartbeats 8000000 in
set_option maxRecDepth 100000 in
theorem ecountN {kids : Eo} (hall : kids.All ECOK) : ECOK kids := by
  intro k i c t b bl bn bc cl cn cc l n cap S deep left w hF hS hd hl
  generalize hres : ecnt kids deep left = res
  have hlen := hF.len
  unfold ecnt at hres
  have hA := ebox_blk w k i c t b bl bn bc cl cn cc l n cap
  have hBA := ebox_below w k i c t b bl bn bc cl cn cc l n cap
  unfold vE
  go_enter Tryz.func38, Tryz.ntmps38
  go_upto_region 1 with (fail)
  change Code.wp _ _ _ _ (ebox w k i c t b bl bn bc cl cn cc l n cap)
  generalize ebox w k i c t b bl bn bc cl cn cc l n cap = w1 at *
  have b10 := hA.cell 10 rfl
  have HF := Lib.hid hF
  have HS := Lib.hid hS
  have HBA := Lib.hid hBA
  clear hA hBA hF hS
  by_cases h1 : 16 < deep
  · have h1i : (16 : Int) < (deep : Int) := by omega
    rw [if_pos (.inl h1)] at hres
    subst hres
    clear h1
    go_wp2_with fail
    go_ret
    exact ⟨rfl, HBA.out⟩
  · have h1i : ¬ (16 : Int) < (deep : Int) := by omega
    by_cases h2 : left = 0
    · rw [if_pos (.inr h2)] at hres
      subst hres
      subst h2
      clear h1
      go_wp2_with fail
      go_ret
      exact ⟨rfl, HBA.out⟩
    · have h2i : ¬ (left : Int) ≤ 0 := by omega
      rw [if_neg (by omega)] at hres
      obtain ⟨d1, hd1⟩ : ∃ d1, d1 = deep + 1 := ⟨_, rfl⟩
      have hd17 : d1 ≤ 17 := by omega
      have hd1i : (deep : Int) + 1 = (d1 : Int) := by omega
      have H0 := Lib.hid (show ECRel kids deep left w res (.int .i64 0) (.int .i64 1) w1 from ⟨.nil, kids, 1, rfl, rfl, rfl, HBA.out, by omega, hres⟩)
      have HALL := Lib.hid hall
      have HLEN := Lib.hid hlen
      have HD1 := Lib.hid hd1
      clear hres hall hlen h1 h2 hd1
      go_wp2_with fail
      go_loopw [18, 7] (fun t18 t7 wr => ECRel kids deep left w res t18 t7 wr ∧ wr.cell? ⟨w.heap.size, 10, none⟩ = some (.slice l n cap) ∧ Below w1.heap.size w1 wr) (fun t18 _ _ => n - (intOf t18).toNat)
      case atStart => exact ⟨H0.out, b10, Below.refl _ _⟩
      case round =>
        obtain ⟨⟨dn, rest, m, rfl, rfl, hk, hB, hml, hq⟩, c10, hB1⟩ := hrel
        have hlen := HLEN.out
        rw [hk, Eo.len_app] at hlen
        have HB := Lib.hid hB
        have HB1 := Lib.hid hB1
        have hFr : EoAt S wr kids l n cap := HF.out.same (fun x hx hlt => hB.block x (HS.out x hx)) (fun x hx _ => hx)
        clear hB hB1 H0 b10
        cases rest with
        | nil =>
          have hj : ¬ (dn.len : Int) < (n : Int) := by have : Eo.len .nil = 0 := rfl; omega
          rw [ecntL] at hq
          have HR := Lib.hid hq
          clear hq hk hlen hFr
          go_wp2_with fail
          go_ret
          rw [← HR.out]
          exact ⟨rfl, HB.out⟩
        | cons k2 i2 c2 t2 b2 cs2 ks rest2 =>
          have hlr : (Eo.cons k2 i2 c2 t2 b2 cs2 ks rest2).len = rest2.len + 1 := rfl
          have hjn : dn.len < n := by omega
          have hj : (dn.len : Int) < (n : Int) := by omega
          rw [hk] at hFr
          obtain ⟨bb, off, bl2, bn2, bc2, cl2, cn2, cc2, l2, n2, cap2, rfl, hE2, hcell, hnb, _⟩ := hFr.elem
          have v0 := hcell 0 (by omega); have v1 := hcell 1 (by omega); have v2 := hcell 2 (by omega); have v3 := hcell 3 (by omega); have v4 := hcell 4 (by omega); have v5 := hcell 5 (by omega); have v6 := hcell 6 (by omega); have v7 := hcell 7 (by omega); have v8 := hcell 8 (by omega); have v9 := hcell 9 (by omega); have v10 := hcell 10 (by omega)
          simp only [V11, List.getElem?_cons_zero, List.getElem?_cons_succ, Nat.add_zero] at v0 v1 v2 v3 v4 v5 v6 v7 v8 v9 v10
          have hCOK : ECOK ks := by
            have hal := HALL.out
            rw [hk] at hal
            exact (Eo.All.split dn hal).1
          rw [ecntL_cons, ← HD1.out] at hq
          obtain ⟨lf, hlf⟩ : ∃ lf, lf = left - m := ⟨_, rfl⟩
          rw [← hlf] at hq
          have hlfi : (left : Int) - (m : Int) = (lf : Int) := by omega
          have hC := hCOK k2 i2 c2 t2 b2 bl2 bn2 bc2 cl2 cn2 cc2 l2 n2 cap2 S d1 lf wr hE2.2.2 (fun x hx => Nat.lt_of_lt_of_le (HS.out x hx) HB.out.size) hd17 (by omega)
          unfold vE at hC
          have hcm := ecnt_le ks d1 lf (by omega)
          have HKK := Lib.hid hk
          have HJ := Lib.hid hjn
          generalize ecnt ks d1 lf = r1 at *
          have HC := Lib.hid hC
          obtain ⟨n1, hn1⟩ : ∃ n1, n1 = m + r1 := ⟨_, rfl⟩
          have hn1i : (m : Int) + (r1 : Int) = (n1 : Int) := by omega
          rw [← hn1] at hq
          have HNM := Lib.hid hn1
          have HLF := Lib.hid hlf
          clear hC hE2 hCOK hk hcell hlen hlr hjn hn1 hlf hFr
          generalize hjj : dn.len = j at *
          have HJJ := Lib.hid hjj
          clear hjj
          by_cases hc1 : left < n1
          · have hc1i : (left : Int) < (n1 : Int) := by omega
            rw [if_pos hc1] at hq
            have HR := Lib.hid hq
            clear hq
            go_wp2_with (go_at_call 38; (with_reducible refine HC.out.mono ?_); rintro e5 w5 ⟨rfl, hB5⟩)
            go_ret
            rw [← HR.out]
            exact ⟨rfl, HB.out.trans (hB5.mono HB.out.size)⟩
          · have hc1i : ¬ (left : Int) < (n1 : Int) := by omega
            rw [if_neg hc1] at hq
            have HR := Lib.hid hq
            clear hq
            go_wp2_with (go_at_call 38; (with_reducible refine HC.out.mono ?_); rintro e5 w5 ⟨rfl, hB5⟩; have HB5 := Lib.hid hB5; clear hB5)
            go_roundw
            case rel =>
              refine ⟨⟨dn.app (.cons k2 i2 c2 t2 b2 cs2 ks .nil), rest2, n1, ?_, rfl, ?_, HB.out.trans (HB5.out.mono HB.out.size), by omega, HR.out⟩, cellAt HB5.out c10, HB1.out.trans (HB5.out.mono HB1.out.size)⟩
              · rw [Eo.len_app, HJJ.out, show (Eo.cons k2 i2 c2 t2 b2 cs2 ks .nil).len = 1 from rfl]; go_num
              · rw [Eo.app_assoc]; exact HKK.out
            case measure => simp [intOf]; have := HJ.out; omega
theorem ecountAll : ∀ f : Eo, f.All ECOK
  | .nil => trivial
  | .cons _ _ _ _ _ _ kids rest => ⟨ecountN (ecountAll kids), ecountAll rest⟩
theorem ecountG (kids : Eo) : ECOK kids := ecountN (ecountAll kids)
end Go.Proofs.YtbldidiibkcelaaGreatDoor

/-
  The document's weight of an error (walk). Not a statement of the seat.
-/
namespace Go.Proofs.YtbldidiibkcelaaGreatDoor
open Go.RowKit

/-- a value's parts, as the document counts them -/
def rsizeD (b : Dt) : Nat := (cntM b.l 1 4096).1
def rwtE (k : Int) (b : Dt) (cs : List Int) : Nat := cs.length + (if k = 5 then rsizeD b else 0)
/-- what a row weighs, behind n -/
def ewtL : Eo → Nat → Nat
  | .nil, n => n
  | .cons k _ _ _ b cs kids rest, n => if 4096 < n + ewtL kids (rwtE k b cs) then 4097 else ewtL rest (n + ewtL kids (rwtE k b cs))
theorem rsizeD_le (b : Dt) : rsizeD b ≤ 4097 := cntM_le _ _ _ (by omega)
theorem ewtL_le : ∀ (f : Eo) (n B : Nat), f.small → 4097 ≤ B → n ≤ B → 140737488359425 ≤ B → ewtL f n ≤ B
  | .nil, _, _, _, _, h, _ => h
  | .cons k i c t b cs kids rest, n, B, hs, hB, h, hb => by
    rw [ewtL]
    split
    · exact hB
    · exact ewtL_le rest _ B hs.2.2 hB (by omega) hb
def EWOK (kids : Eo) : Prop := ∀ (k i c : Int) (t : Bs) (b : Dt) (cs : List Int) (bl : Option Addr) (bn bc : Nat) (cl : Option Addr) (cn cc : Nat) (l : Option Addr) (n cap : Nat) (S : Nat → Prop) (w : World),
  ErAt S w ⟨k, i, c, t, b, cs, kids⟩ bl bn bc cl cn cc l n cap → (∀ x, S x → x < w.heap.size) → cs.length ≤ 140737488355328 → kids.small →
  Calls Tryz.prog 40 #[vE k i c t b bl bn bc cl cn cc l n cap] w (fun e w' => e = .returned (.int .i64 (ewtL kids (rwtE k b cs) : Nat)) ∧ Below w.heap.size w w')
def EWRel (kids : Eo) (w : World) (res : Nat) (t25 t3 : Value) (wr : World) : Prop :=
  ∃ (dn rest : Eo) (n : Nat), t25 = .int .i64 (dn.len : Nat) ∧ t3 = .int .i64 (n : Nat) ∧ kids = dn.app rest ∧ Below w.heap.size w wr ∧ n ≤ 140737488359425 ∧ ewtL rest n = res
set_option maxHeartbeats 8000000 in
set_option maxRecDepth 100000 in
theorem eweightN {kids : Eo} (hall : kids.All EWOK) : EWOK kids := by
  intro k i c t b cs bl bn bc cl cn cc l n cap S w hE hS hcs hks
  generalize hres : ewtL kids (rwtE k b cs) = res
  have hlen := hE.2.2.len
  have hcn : cs.length = cn := by have h : (I8 cs).length = cn * 1 := hE.2.1.1.1; rw [I8_length] at h; omega
  have hA := ebox_blk w k i c t b bl bn bc cl cn cc l n cap
  have hBA := ebox_below w k i c t b bl bn bc cl cn cc l n cap
  unfold vE
  go_enter Tryz.func40, Tryz.ntmps40
  go_upto_region 1 with (fail)
  change Code.wp _ _ _ _ (ebox w k i c t b bl bn bc cl cn cc l n cap)
  generalize ebox w k i c t b bl bn bc cl cn cc l n cap = w1 at *
  have b0 := hA.cell 0 rfl; have b9 := hA.cell 9 rfl
  have HE := Lib.hid hE
  have HS := Lib.hid hS
  have HX1 := Lib.hid hA
  have HBA := Lib.hid hBA
  have HCN := Lib.hid hcn
  clear hA hBA hE hS hcn
  by_cases hk5 : k = 5
  · have ek5 : (k == 5) = true := by simp [hk5]
    have HK5 := Lib.hid hk5
    have e4 := HX1.out.cell 4 rfl; have e5 := HX1.out.cell 5 rfl; have e6 := HX1.out.cell 6 rfl; have e7 := HX1.out.cell 7 rfl; have e8 := HX1.out.cell 8 rfl
    have hCP := rpartsN (d := b) (w := w1) (HE.out.1.same (fun x hx hlt => HBA.out.block x hlt) (fun _ hx _ => hx)) (fun x hx => Nat.lt_of_lt_of_le (HS.out x hx) HBA.out.size)
    unfold CP at hCP
    change Calls Tryz.prog 78 _ w1 (fun e w' => e = .returned (.tuple #[.int .i64 (rsizeD b : Nat), .int .i64 ((cntM b.l 1 4096).2 : Nat)]) ∧ Below w1.heap.size w1 w') at hCP
    generalize (cntM b.l 1 4096).2 = mm at *
    have hbv := rsizeD_le b
    obtain ⟨sz, hsz⟩ : ∃ sz, sz = rsizeD b := ⟨_, rfl⟩
    rw [← hsz] at hCP hbv
    have HCP := Lib.hid hCP
    obtain ⟨n0, hn0⟩ : ∃ n0 : Nat, n0 = cn + sz := ⟨_, rfl⟩
    have hcnb : cn ≤ 140737488355328 := by have := HCN.out; omega
    have hn0b : n0 ≤ 140737488359425 := by omega
    have HRES := Lib.hid (show ewtL kids n0 = res by rw [← hres, hn0]; unfold rwtE; rw [if_pos hk5, HCN.out, hsz])
    have hwi : (cn : Int) + (sz : Int) = (n0 : Int) := by omega
    clear hk5 hCP hsz hn0 hres hcs
    go_upto_region 5 with (go_at_call 78; (with_reducible refine HCP.out.mono ?_); rintro e wT ⟨rfl, hB5⟩; have HXT := Lib.hid (HX1.out.below hB5); have HBT := Lib.hid (HBA.out.trans (hB5.mono HBA.out.size)); clear hB5)
    clear b0 b9 e4 e5 e6 e7 e8 hwi HCP
    have H0 := Lib.hid (show EWRel kids w res (.int .i64 0) (.int .i64 (n0 : Nat)) wT from ⟨.nil, kids, n0, rfl, rfl, rfl, HBT.out, hn0b, HRES.out⟩)
    have HALL := Lib.hid hall
    have HLEN := Lib.hid hlen
    have HKS := Lib.hid hks
    have HBT0 := Lib.hid (Below.refl wT.heap.size wT)
    have g10 := HXT.out.cell 10 rfl
    clear HRES hall hlen hks hn0b
    go_wp2_with fail
    go_loopw [25, 3] (fun t25 t3 wr => EWRel kids w res t25 t3 wr ∧ wr.cell? ⟨w.heap.size, 10, none⟩ = some (.slice l n cap) ∧ Below wT.heap.size wT wr) (fun t25 _ _ => n - (intOf t25).toNat)
    case atStart => exact ⟨H0.out, g10, Below.refl _ _⟩
    case round =>
      obtain ⟨⟨dn, rest, m, rfl, rfl, hk, hB, hml, hq⟩, c10, hB1⟩ := hrel
      have hlen := HLEN.out
      rw [hk, Eo.len_app] at hlen
      have HB := Lib.hid hB
      have HB1 := Lib.hid hB1
      have hFr : EoAt S wr kids l n cap := HE.out.2.2.same (fun x hx hlt => hB.block x (HS.out x hx)) (fun x hx _ => hx)
      clear hB hB1 H0 g10
      cases rest with
      | nil =>
        have hj : ¬ (dn.len : Int) < (n : Int) := by have : Eo.len .nil = 0 := rfl; omega
        rw [ewtL] at hq
        have HR := Lib.hid hq
        clear hq hk hlen hFr
        go_wp2_with fail
        go_ret
        rw [← HR.out]
        exact ⟨rfl, HB.out⟩
      | cons k2 i2 c2 t2 b2 cs2 ks rest2 =>
        have hlr : (Eo.cons k2 i2 c2 t2 b2 cs2 ks rest2).len = rest2.len + 1 := rfl
        have hjn : dn.len < n := by omega
        have hj : (dn.len : Int) < (n : Int) := by omega
        rw [hk] at hFr
        obtain ⟨bb, off, bl2, bn2, bc2, cl2, cn2, cc2, l2, n2, cap2, rfl, hE2, hcell, hnb, _⟩ := hFr.elem
        have v0 := hcell 0 (by omega); have v1 := hcell 1 (by omega); have v2 := hcell 2 (by omega); have v3 := hcell 3 (by omega); have v4 := hcell 4 (by omega); have v5 := hcell 5 (by omega); have v6 := hcell 6 (by omega); have v7 := hcell 7 (by omega); have v8 := hcell 8 (by omega); have v9 := hcell 9 (by omega); have v10 := hcell 10 (by omega)
        simp only [V11, List.getElem?_cons_zero, List.getElem?_cons_succ, Nat.add_zero] at v0 v1 v2 v3 v4 v5 v6 v7 v8 v9 v10
        have hWOK : EWOK ks := by
          have hal := HALL.out
          rw [hk] at hal
          exact (Eo.All.split dn hal).1
        have hsm := HKS.out
        rw [hk] at hsm
        have hsm2 := Eo.small_app dn hsm
        rw [ewtL] at hq
        have hC := hWOK k2 i2 c2 t2 b2 cs2 bl2 bn2 bc2 cl2 cn2 cc2 l2 n2 cap2 S wr hE2 (fun x hx => Nat.lt_of_lt_of_le (HS.out x hx) HB.out.size) hsm2.1 hsm2.2.1
        unfold vE at hC
        have hrb : rwtE k2 b2 cs2 ≤ 140737488359425 := by unfold rwtE; have := rsizeD_le b2; have := hsm2.1; split <;> omega
        have hcm := ewtL_le ks (rwtE k2 b2 cs2) 140737488359425 hsm2.2.1 (by omega) hrb (by omega)
        have HKK := Lib.hid hk
        have HJ := Lib.hid hjn
        generalize ewtL ks (rwtE k2 b2 cs2) = r1 at *
        have HC := Lib.hid hC
        obtain ⟨n1, hn1⟩ : ∃ n1, n1 = m + r1 := ⟨_, rfl⟩
        have hn1i : (m : Int) + (r1 : Int) = (n1 : Int) := by omega
        rw [← hn1] at hq
        have HNM := Lib.hid hn1
        have hn1b : n1 ≤ 281474976718850 := by omega
        clear hC hE2 hWOK hk hcell hlen hlr hjn hn1 hFr hsm hsm2 hrb hcm
        generalize hjj : dn.len = j at *
        have HJJ := Lib.hid hjj
        clear hjj
        by_cases hc1 : 4096 < n1
        · have hc1i : (4096 : Int) < (n1 : Int) := by omega
          rw [if_pos hc1] at hq
          have HR := Lib.hid hq
          clear hq
          go_wp2_with (go_at_call 40; (with_reducible refine HC.out.mono ?_); rintro e5 w5 ⟨rfl, hB5⟩)
          go_ret
          rw [← HR.out]
          exact ⟨rfl, HB.out.trans (hB5.mono HB.out.size)⟩
        · have hc1i : ¬ (4096 : Int) < (n1 : Int) := by omega
          rw [if_neg hc1] at hq
          have HR := Lib.hid hq
          clear hq
          go_wp2_with (go_at_call 40; (with_reducible refine HC.out.mono ?_); rintro e5 w5 ⟨rfl, hB5⟩; have HB5 := Lib.hid hB5; clear hB5)
          go_roundw
          case rel =>
            refine ⟨⟨dn.app (.cons k2 i2 c2 t2 b2 cs2 ks .nil), rest2, n1, ?_, rfl, ?_, HB.out.trans (HB5.out.mono HB.out.size), by omega, HR.out⟩, cellAt HB5.out c10, HB1.out.trans (HB5.out.mono HB1.out.size)⟩
            · rw [Eo.len_app, HJJ.out, show (Eo.cons k2 i2 c2 t2 b2 cs2 ks .nil).len = 1 from rfl]; go_num
            · rw [Eo.app_assoc]; exact HKK.out
          case measure => simp [intOf]; have := HJ.out; omega
  · have ek5 : (k == 5) = false := by simpa using hk5
    obtain ⟨n0, hn0⟩ : ∃ n0 : Nat, n0 = cn := ⟨_, rfl⟩
    have hn0b : n0 ≤ 140737488359425 := by have := HCN.out; omega
    have HRES := Lib.hid (show ewtL kids n0 = res by rw [← hres, hn0]; unfold rwtE; rw [if_neg hk5, HCN.out]; rfl)
    have HXT := HX1
    have HBT := HBA
    clear hk5 hres hcs
    go_upto_region 5 with fail
    rw [← hn0]
    clear b0 b9 hn0
    have H0 := Lib.hid (show EWRel kids w res (.int .i64 0) (.int .i64 (n0 : Nat)) w1 from ⟨.nil, kids, n0, rfl, rfl, rfl, HBT.out, hn0b, HRES.out⟩)
    have HALL := Lib.hid hall
    have HLEN := Lib.hid hlen
    have HKS := Lib.hid hks
    have HBT0 := Lib.hid (Below.refl w1.heap.size w1)
    have g10 := HXT.out.cell 10 rfl
    clear HRES hall hlen hks hn0b
    go_wp2_with fail
    go_loopw [25, 3] (fun t25 t3 wr => EWRel kids w res t25 t3 wr ∧ wr.cell? ⟨w.heap.size, 10, none⟩ = some (.slice l n cap) ∧ Below w1.heap.size w1 wr) (fun t25 _ _ => n - (intOf t25).toNat)
    case atStart => exact ⟨H0.out, g10, Below.refl _ _⟩
    case round =>
      obtain ⟨⟨dn, rest, m, rfl, rfl, hk, hB, hml, hq⟩, c10, hB1⟩ := hrel
      have hlen := HLEN.out
      rw [hk, Eo.len_app] at hlen
      have HB := Lib.hid hB
      have HB1 := Lib.hid hB1
      have hFr : EoAt S wr kids l n cap := HE.out.2.2.same (fun x hx hlt => hB.block x (HS.out x hx)) (fun x hx _ => hx)
      clear hB hB1 H0 g10
      cases rest with
      | nil =>
        have hj : ¬ (dn.len : Int) < (n : Int) := by have : Eo.len .nil = 0 := rfl; omega
        rw [ewtL] at hq
        have HR := Lib.hid hq
        clear hq hk hlen hFr
        go_wp2_with fail
        go_ret
        rw [← HR.out]
        exact ⟨rfl, HB.out⟩
      | cons k2 i2 c2 t2 b2 cs2 ks rest2 =>
        have hlr : (Eo.cons k2 i2 c2 t2 b2 cs2 ks rest2).len = rest2.len + 1 := rfl
        have hjn : dn.len < n := by omega
        have hj : (dn.len : Int) < (n : Int) := by omega
        rw [hk] at hFr
        obtain ⟨bb, off, bl2, bn2, bc2, cl2, cn2, cc2, l2, n2, cap2, rfl, hE2, hcell, hnb, _⟩ := hFr.elem
        have v0 := hcell 0 (by omega); have v1 := hcell 1 (by omega); have v2 := hcell 2 (by omega); have v3 := hcell 3 (by omega); have v4 := hcell 4 (by omega); have v5 := hcell 5 (by omega); have v6 := hcell 6 (by omega); have v7 := hcell 7 (by omega); have v8 := hcell 8 (by omega); have v9 := hcell 9 (by omega); have v10 := hcell 10 (by omega)
        simp only [V11, List.getElem?_cons_zero, List.getElem?_cons_succ, Nat.add_zero] at v0 v1 v2 v3 v4 v5 v6 v7 v8 v9 v10
        have hWOK : EWOK ks := by
          have hal := HALL.out
          rw [hk] at hal
          exact (Eo.All.split dn hal).1
        have hsm := HKS.out
        rw [hk] at hsm
        have hsm2 := Eo.small_app dn hsm
        rw [ewtL] at hq
        have hC := hWOK k2 i2 c2 t2 b2 cs2 bl2 bn2 bc2 cl2 cn2 cc2 l2 n2 cap2 S wr hE2 (fun x hx => Nat.lt_of_lt_of_le (HS.out x hx) HB.out.size) hsm2.1 hsm2.2.1
        unfold vE at hC
        have hrb : rwtE k2 b2 cs2 ≤ 140737488359425 := by unfold rwtE; have := rsizeD_le b2; have := hsm2.1; split <;> omega
        have hcm := ewtL_le ks (rwtE k2 b2 cs2) 140737488359425 hsm2.2.1 (by omega) hrb (by omega)
        have HKK := Lib.hid hk
        have HJ := Lib.hid hjn
        generalize ewtL ks (rwtE k2 b2 cs2) = r1 at *
        have HC := Lib.hid hC
        obtain ⟨n1, hn1⟩ : ∃ n1, n1 = m + r1 := ⟨_, rfl⟩
        have hn1i : (m : Int) + (r1 : Int) = (n1 : Int) := by omega
        rw [← hn1] at hq
        have HNM := Lib.hid hn1
        have hn1b : n1 ≤ 281474976718850 := by omega
        clear hC hE2 hWOK hk hcell hlen hlr hjn hn1 hFr hsm hsm2 hrb hcm
        generalize hjj : dn.len = j at *
        have HJJ := Lib.hid hjj
        clear hjj
        by_cases hc1 : 4096 < n1
        · have hc1i : (4096 : Int) < (n1 : Int) := by omega
          rw [if_pos hc1] at hq
          have HR := Lib.hid hq
          clear hq
          go_wp2_with (go_at_call 40; (with_reducible refine HC.out.mono ?_); rintro e5 w5 ⟨rfl, hB5⟩)
          go_ret
          rw [← HR.out]
          exact ⟨rfl, HB.out.trans (hB5.mono HB.out.size)⟩
        · have hc1i : ¬ (4096 : Int) < (n1 : Int) := by omega
          rw [if_neg hc1] at hq
          have HR := Lib.hid hq
          clear hq
          go_wp2_with (go_at_call 40; (with_reducible refine HC.out.mono ?_); rintro e5 w5 ⟨rfl, hB5⟩; have HB5 := Lib.hid hB5; clear hB5)
          go_roundw
          case rel =>
            refine ⟨⟨dn.app (.cons k2 i2 c2 t2 b2 cs2 ks .nil), rest2, n1, ?_, rfl, ?_, HB.out.trans (HB5.out.mono HB.out.size), by omega, HR.out⟩, cellAt HB5.out c10, HB1.out.trans (HB5.out.mono HB1.out.size)⟩
            · rw [Eo.len_app, HJJ.out, show (Eo.cons k2 i2 c2 t2 b2 cs2 ks .nil).len = 1 from rfl]; go_num
            · rw [Eo.app_assoc]; exact HKK.out
          case measure => simp [intOf]; have := HJ.out; omega
theorem eweightAll : ∀ f : Eo, f.All EWOK
  | .nil => trivial
  | .cons _ _ _ _ _ _ kids rest => ⟨eweightN (eweightAll kids), eweightAll rest⟩
theorem eweightG (kids : Eo) : EWOK kids := eweightN (eweightAll kids)
end Go.Proofs.YtbldidiibkcelaaGreatDoor

/-
  What is right of an error (plain). Not a statement of the seat.
-/
namespace Go.Proofs.YtbldidiibkcelaaGreatDoor
open Go.RowKit

/-- a row is right; many: what wraps it is of that kind -/
def rrightL : Bool → Eo → Bool
  | _, .nil => true
  | many, .cons k i c t b cs kids rest => (!(!many && k == 0) && (fitsE k i c t b cs.length kids.len && rrightL (k == 4) kids)) && rrightL many rest
/-- .. one error -/
def rright1 (k i c : Int) (t : Bs) (b : Dt) (cs : List Int) (kids : Eo) : Bool := fitsE k i c t b cs.length kids.len && rrightL (k == 4) kids
def esz : Eo → Nat
  | .nil => 0
  | .cons _ _ _ _ _ _ kids rest => 1 + esz kids + esz rest
def ehi : Eo → Nat
  | .nil => 0
  | .cons _ _ _ _ _ _ kids rest => max (ehi kids + 1) (ehi rest)
def rewF : Eo → Nat
  | .nil => 0
  | .cons k _ _ _ b cs kids rest => rwtE k b cs + rewF kids + rewF rest
theorem ecnt_ok : ∀ (f : Eo) (deep left n : Nat), n + esz f ≤ left → deep + ehi f ≤ 16 → ecntL f deep left n = n + esz f
  | .nil, _, _, _, _, _ => rfl
  | .cons k i c t b cs kids rest, deep, left, n, h1, h2 => by
    simp only [esz, ehi] at h1 h2 ⊢
    have hr : ecnt kids (deep + 1) (left - n) = 1 + esz kids := by
      unfold ecnt
      rw [if_neg (by omega), ecnt_ok kids (deep + 1) (left - n) 1 (by omega) (by omega)]
    rw [ecntL_cons, hr, if_neg (by omega), ecnt_ok rest deep left _ (by omega) (by omega)]
    omega
theorem ecnt_inv : ∀ (f : Eo) (deep left n : Nat), n ≤ left → left ≤ 4096 → deep ≤ 16 → ecntL f deep left n ≤ 4096 → n + esz f ≤ left ∧ deep + ehi f ≤ 16
  | .nil, _, _, _, h1, _, h2, _ => ⟨h1, h2⟩
  | .cons k i c t b cs kids rest, deep, left, n, h1, h2, h3, h => by
    rw [ecntL_cons] at h
    split at h
    · omega
    · rename_i hc
      have hk : ecnt kids (deep + 1) (left - n) ≤ 4096 := by omega
      unfold ecnt at hk
      split at hk
      · omega
      · rename_i hd
        have hk2 := ecnt_inv kids (deep + 1) (left - n) 1 (by omega) (by omega) (by omega) hk
        have hv : ecnt kids (deep + 1) (left - n) = 1 + esz kids := by unfold ecnt; rw [if_neg hd, ecnt_ok _ _ _ _ hk2.1 hk2.2]
        rw [hv] at h
        have hr := ecnt_inv rest deep left _ (by omega) h2 h3 h
        simp only [esz, ehi]
        omega
theorem ewt_ok : ∀ (f : Eo) (n : Nat), (n + rewF f ≤ 4096 → ewtL f n = n + rewF f) ∧ (4096 < n + rewF f → 4096 < ewtL f n)
  | .nil, n => ⟨fun _ => rfl, fun h => h⟩
  | .cons k i c t b cs kids rest, n => by
    have hk := ewt_ok kids (rwtE k b cs)
    rw [ewtL]
    simp only [rewF]
    by_cases hK : rwtE k b cs + rewF kids ≤ 4096
    · rw [hk.1 hK]
      have hr := ewt_ok rest (n + (rwtE k b cs + rewF kids))
      constructor
      · intro h
        rw [if_neg (by omega), hr.1 (by omega)]; omega
      · intro h
        split
        · omega
        · exact hr.2 (by omega)
    · have := hk.2 (by omega)
      exact ⟨fun h => by omega, fun _ => by rw [if_pos (by omega)]; omega⟩
/-- the document's Valid of an error -/
def ervalidM (e : Et) : Bool := decide (ecnt e.l 1 4096 ≤ 4096) && (rright1 e.k e.i e.c e.t e.b e.cs e.l && decide (ewtL e.l (rwtE e.k e.b e.cs) ≤ 4096))
def okE (e : Et) : Prop := 1 + esz e.l ≤ 4096 ∧ 1 + ehi e.l ≤ 16 ∧ rright1 e.k e.i e.c e.t e.b e.cs e.l = true ∧ rwtE e.k e.b e.cs + rewF e.l ≤ 4096
theorem ervalid_ok (e : Et) : ervalidM e = true ↔ okE e := by
  obtain ⟨k, i, c, t, b, cs, kids⟩ := e
  unfold ervalidM okE
  dsimp only
  rw [Bool.and_eq_true, Bool.and_eq_true, decide_eq_true_eq, decide_eq_true_eq]
  constructor
  · rintro ⟨h1, h2, h3⟩
    unfold ecnt at h1
    rw [if_neg (by omega)] at h1
    have ha := ecnt_inv kids 1 4096 1 (by omega) (by omega) (by omega) h1
    refine ⟨ha.1, ha.2, h2, ?_⟩
    have := (ewt_ok kids (rwtE k b cs)).2
    omega
  · rintro ⟨h1, h2, h3, h4⟩
    refine ⟨?_, h3, ?_⟩
    · unfold ecnt
      rw [if_neg (by omega), ecnt_ok kids 1 4096 1 h1 h2]; exact h1
    · rw [(ewt_ok kids (rwtE k b cs)).1 h4]; exact h4
end Go.Proofs.YtbldidiibkcelaaGreatDoor

