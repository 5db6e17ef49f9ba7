/-
  fits, look, Valid, Parts (walks). Not a statement of the seat.
-/
import Derived.Test.YtbldidiibkcelaaGreatDoorTSlices
import Derived.Deep.CutBlock
namespace Go.Proofs.YtbldidiibkcelaaGreatDoor
open Go.RowKit

/-- what the kind's way leaves: the whole, or an early no -/
def fits2 (wh bi wo : Bool) (pl i b : Int) (t : Bs) (n : Nat) : Bool := (wh || i == 0) && ((bi || b == 0) && ((wo || t == []) && (decide (t.length ≤ 65535) && ((n : Int) == pl))))
theorem natE0 (n : Nat) : ((n : Int) == 0) = (n == 0) := by rw [Bool.eq_iff_iff]; simp
theorem natE1 (n : Nat) : ((n : Int) == 1) = (n == 1) := by rw [Bool.eq_iff_iff]; simp; omega
theorem natE2 (n : Nat) : ((n : Int) == 2) = (n == 2) := by rw [Bool.eq_iff_iff]; simp; omega
set_option maxRecDepth 100000 in
set_option maxHeartbeats 8000000 in
theorem fitsN (k i b : Int) (t : ByteArray) (l : Option Addr) (n c : Nat) (w : World) :
    Calls Tryz.prog 115 #[.agg #[.int .i64 k, .int .i64 i, .int .u64 b, .string t, .slice l n c]] w (fun e w' => e = .returned (.bool (fitsM k i b t.data.toList n)) ∧ Below w.heap.size w w') := by
  have hsz := Lib.size_eq t
  have HSZ := Lib.hid hsz
  have hW := Blk.new w #[.int .i64 k, .int .i64 i, .int .u64 b, .string t, .slice l n c] 25
  have hBW : Below w.heap.size w (w.alloc (.cells #[.int .i64 k, .int .i64 i, .int .u64 b, .string t, .slice l n c] 25)) := (Below.refl _ _).alloc (Nat.le_refl _) _
  clear hsz
  go_enter Tryz.func115, Tryz.ntmps115
  go_upto_region 2 with (fail)
  generalize w.alloc (.cells #[.int .i64 k, .int .i64 i, .int .u64 b, .string t, .slice l n c] 25) = w0 at *
  have c0 := hW.cell 0 rfl
  have c1 := hW.cell 1 rfl
  have c2 := hW.cell 2 rfl
  have c3 := hW.cell 3 rfl
  have c4 := hW.cell 4 rfl
  have HB := Lib.hid hBW
  clear hW hBW
  go_upto_block 0 with (fail)
  go_cut [3, 4, 5, 6] from 9 (fun s3 s4 s5 s6 wx => wx = w0 ∧ ∃ wh bi wo pl, s3 = .bool wh ∧ s4 = .bool bi ∧ s5 = .bool wo ∧ s6 = .int .i64 pl ∧ fitsM k i b t.data.toList n = fits2 wh bi wo pl i b t.data.toList n)
  · by_cases hk : k = 0
    · subst hk
      go_wp2_with fail
      go_meet
      case rel => exact ⟨rfl, false, false, false, 0, rfl, rfl, rfl, rfl, by simp [fitsM, fits2, Bool.and_assoc, natE0]⟩
    by_cases hk : k = 1
    · subst hk
      go_wp2_with fail
      go_meet
      case rel => exact ⟨rfl, true, false, false, 0, rfl, rfl, rfl, rfl, by simp [fitsM, fits2, Bool.and_assoc, natE0]⟩
    by_cases hk : k = 2
    · subst hk
      go_wp2_with fail
      go_meet
      case rel => exact ⟨rfl, true, false, false, 0, rfl, rfl, rfl, rfl, by simp [fitsM, fits2, Bool.and_assoc, natE0]⟩
    by_cases hk : k = 3
    · subst hk
      go_wp2_with fail
      go_meet
      case rel => exact ⟨rfl, false, true, false, 0, rfl, rfl, rfl, rfl, by simp [fitsM, fits2, Bool.and_assoc, natE0]⟩
    by_cases hk : k = 4
    · subst hk
      go_wp2_with fail
      go_meet
      case rel => exact ⟨rfl, false, false, true, 0, rfl, rfl, rfl, rfl, by simp [fitsM, fits2, Bool.and_assoc, natE0]⟩
    by_cases hk : k = 5
    · subst hk
      go_wp2_with fail
      go_meet
      case rel => exact ⟨rfl, false, false, true, 0, rfl, rfl, rfl, rfl, by simp [fitsM, fits2, Bool.and_assoc, natE0]⟩
    by_cases hk : k = 7
    · subst hk
      go_wp2_with fail
      go_meet
      case rel => exact ⟨rfl, false, false, true, 0, rfl, rfl, rfl, rfl, by simp [fitsM, fits2, Bool.and_assoc, natE0]⟩
    by_cases hk : k = 8
    · subst hk
      go_wp2_with fail
      go_meet
      case rel => exact ⟨rfl, false, false, false, (n : Int), rfl, rfl, rfl, rfl, by simp [fitsM, fits2, Bool.and_assoc]⟩
    by_cases hk : k = 9
    · subst hk
      go_wp2_with fail
      go_meet
      case rel => exact ⟨rfl, false, false, false, 2, rfl, rfl, rfl, rfl, by simp [fitsM, fits2, Bool.and_assoc, natE2]⟩
    by_cases hk : k = 10
    · subst hk
      go_wp2_with fail
      go_meet
      case rel => exact ⟨rfl, true, false, true, 0, rfl, rfl, rfl, rfl, by simp [fitsM, fits2, Bool.and_assoc, natE0]⟩
    by_cases hk : k = 12
    · subst hk
      go_wp2_with fail
      go_meet
      case rel => exact ⟨rfl, false, false, false, 0, rfl, rfl, rfl, rfl, by simp [fitsM, fits2, Bool.and_assoc, natE0]⟩
    by_cases hk : k = 13
    · subst hk
      go_wp2_with fail
      go_meet
      case rel => exact ⟨rfl, false, false, false, 0, rfl, rfl, rfl, rfl, by simp [fitsM, fits2, Bool.and_assoc, natE0]⟩
    by_cases hk : k = 6
    · subst hk
      by_cases h0 : i = 0
      · subst h0
        go_wp2_with fail
        go_meet
        case rel => exact ⟨rfl, true, false, false, 0, rfl, rfl, rfl, rfl, by simp [fitsM, fits2, Bool.and_assoc, natE0]⟩
      · by_cases h1 : i = 1
        · subst h1
          go_wp2_with fail
          go_meet
          case rel => exact ⟨rfl, true, false, false, 0, rfl, rfl, rfl, rfl, by simp [fitsM, fits2, Bool.and_assoc, natE0]⟩
        · have hi0 : (i != 0) = true := by simp; omega
          have hi1 : (i != 1) = true := by simp; omega
          go_wp2_with fail
          go_ret
          exact ⟨by simp [fitsM, h0, h1], HB.out⟩
    by_cases hk : k = 11
    · subst hk
      by_cases h0 : i < 1
      · go_wp2_with fail
        go_ret
        exact ⟨by simp [fitsM]; omega, HB.out⟩
      · have h1 : 1 ≤ i := by omega
        go_wp2_with fail
        go_meet
        case rel => exact ⟨rfl, true, false, false, 1, rfl, rfl, rfl, rfl, by simp [fitsM, fits2, h1, Bool.and_assoc, natE1]⟩
    have h0 : (k == 0) = false := by simp; omega
    have h1 : (k == 1) = false := by simp; omega
    have h2 : (k == 2) = false := by simp; omega
    have h3 : (k == 3) = false := by simp; omega
    have h4 : (k == 4) = false := by simp; omega
    have h5 : (k == 5) = false := by simp; omega
    have h6 : (k == 6) = false := by simp; omega
    have h7 : (k == 7) = false := by simp; omega
    have h8 : (k == 8) = false := by simp; omega
    have h9 : (k == 9) = false := by simp; omega
    have h10 : (k == 10) = false := by simp; omega
    have h11 : (k == 11) = false := by simp; omega
    have h12 : (k == 12) = false := by simp; omega
    have h13 : (k == 13) = false := by simp; omega
    have hfit : fitsM k i b t.data.toList n = false := by
      have : ¬ (0 ≤ k ∧ k ≤ 13) := by omega
      unfold fitsM
      simp only [Bool.and_eq_false_iff]
      refine .inl (.inl (.inl (.inl (.inl (.inl (.inl ?_))))))
      simp; omega
    go_wp2_with fail
    go_ret
    exact ⟨by rw [hfit]; rfl, HB.out⟩
  · obtain ⟨rfl, wh, bi, wo, pl, rfl, rfl, rfl, rfl, hfit⟩ := hcut
    have HFIT := Lib.hid hfit
    have hts : (t.data.toList == []) = (t.toList == []) := by rw [Lib.toList_data]
    have HTS := Lib.hid hts
    clear hts hfit
    cases wh
    · cases hi : (i == 0)
      · go_wp2_with fail
        go_ret
        exact ⟨by rw [HFIT.out]; simp [fits2, HTS.out, hi], HB.out⟩
      · cases bi
        · cases hb : (b == 0)
          · go_wp2_with fail
            go_ret
            exact ⟨by rw [HFIT.out]; simp [fits2, HTS.out, hi, hb], HB.out⟩
          · cases wo
            · cases ht : (t.toList == [])
              · go_wp2_with fail
                go_ret
                exact ⟨by rw [HFIT.out]; simp [fits2, HTS.out, hi, hb, ht], HB.out⟩
              · by_cases hl : t.size ≤ 65535
                · have hli : (t.size : Int) ≤ 65535 := by omega
                  cases hn : ((n : Int) == pl)
                  · go_wp2_with fail
                    go_ret
                    exact ⟨by rw [HFIT.out]; simp [fits2, HTS.out, hi, hb, ht, hl, hn], HB.out⟩
                  · go_wp2_with fail
                    go_ret
                    exact ⟨by rw [HFIT.out]; simp [fits2, HTS.out, hi, hb, ht, hl, hn], HB.out⟩
                · have hli : ¬ (t.size : Int) ≤ 65535 := by omega
                  go_wp2_with fail
                  go_ret
                  exact ⟨by rw [HFIT.out]; simp [fits2, HTS.out, hi, hb, ht, hl], HB.out⟩
            · by_cases hl : t.size ≤ 65535
              · have hli : (t.size : Int) ≤ 65535 := by omega
                cases hn : ((n : Int) == pl)
                · go_wp2_with fail
                  go_ret
                  exact ⟨by rw [HFIT.out]; simp [fits2, HTS.out, hi, hb, hl, hn], HB.out⟩
                · go_wp2_with fail
                  go_ret
                  exact ⟨by rw [HFIT.out]; simp [fits2, HTS.out, hi, hb, hl, hn], HB.out⟩
              · have hli : ¬ (t.size : Int) ≤ 65535 := by omega
                go_wp2_with fail
                go_ret
                exact ⟨by rw [HFIT.out]; simp [fits2, HTS.out, hi, hb, hl], HB.out⟩
        · cases wo
          · cases ht : (t.toList == [])
            · go_wp2_with fail
              go_ret
              exact ⟨by rw [HFIT.out]; simp [fits2, HTS.out, hi, ht], HB.out⟩
            · by_cases hl : t.size ≤ 65535
              · have hli : (t.size : Int) ≤ 65535 := by omega
                cases hn : ((n : Int) == pl)
                · go_wp2_with fail
                  go_ret
                  exact ⟨by rw [HFIT.out]; simp [fits2, HTS.out, hi, ht, hl, hn], HB.out⟩
                · go_wp2_with fail
                  go_ret
                  exact ⟨by rw [HFIT.out]; simp [fits2, HTS.out, hi, ht, hl, hn], HB.out⟩
              · have hli : ¬ (t.size : Int) ≤ 65535 := by omega
                go_wp2_with fail
                go_ret
                exact ⟨by rw [HFIT.out]; simp [fits2, HTS.out, hi, ht, hl], HB.out⟩
          · by_cases hl : t.size ≤ 65535
            · have hli : (t.size : Int) ≤ 65535 := by omega
              cases hn : ((n : Int) == pl)
              · go_wp2_with fail
                go_ret
                exact ⟨by rw [HFIT.out]; simp [fits2, HTS.out, hi, hl, hn], HB.out⟩
              · go_wp2_with fail
                go_ret
                exact ⟨by rw [HFIT.out]; simp [fits2, HTS.out, hi, hl, hn], HB.out⟩
            · have hli : ¬ (t.size : Int) ≤ 65535 := by omega
              go_wp2_with fail
              go_ret
              exact ⟨by rw [HFIT.out]; simp [fits2, HTS.out, hi, hl], HB.out⟩
    · cases bi
      · cases hb : (b == 0)
        · go_wp2_with fail
          go_ret
          exact ⟨by rw [HFIT.out]; simp [fits2, HTS.out, hb], HB.out⟩
        · cases wo
          · cases ht : (t.toList == [])
            · go_wp2_with fail
              go_ret
              exact ⟨by rw [HFIT.out]; simp [fits2, HTS.out, hb, ht], HB.out⟩
            · by_cases hl : t.size ≤ 65535
              · have hli : (t.size : Int) ≤ 65535 := by omega
                cases hn : ((n : Int) == pl)
                · go_wp2_with fail
                  go_ret
                  exact ⟨by rw [HFIT.out]; simp [fits2, HTS.out, hb, ht, hl, hn], HB.out⟩
                · go_wp2_with fail
                  go_ret
                  exact ⟨by rw [HFIT.out]; simp [fits2, HTS.out, hb, ht, hl, hn], HB.out⟩
              · have hli : ¬ (t.size : Int) ≤ 65535 := by omega
                go_wp2_with fail
                go_ret
                exact ⟨by rw [HFIT.out]; simp [fits2, HTS.out, hb, ht, hl], HB.out⟩
          · by_cases hl : t.size ≤ 65535
            · have hli : (t.size : Int) ≤ 65535 := by omega
              cases hn : ((n : Int) == pl)
              · go_wp2_with fail
                go_ret
                exact ⟨by rw [HFIT.out]; simp [fits2, HTS.out, hb, hl, hn], HB.out⟩
              · go_wp2_with fail
                go_ret
                exact ⟨by rw [HFIT.out]; simp [fits2, HTS.out, hb, hl, hn], HB.out⟩
            · have hli : ¬ (t.size : Int) ≤ 65535 := by omega
              go_wp2_with fail
              go_ret
              exact ⟨by rw [HFIT.out]; simp [fits2, HTS.out, hb, hl], HB.out⟩
      · cases wo
        · cases ht : (t.toList == [])
          · go_wp2_with fail
            go_ret
            exact ⟨by rw [HFIT.out]; simp [fits2, HTS.out, ht], HB.out⟩
          · by_cases hl : t.size ≤ 65535
            · have hli : (t.size : Int) ≤ 65535 := by omega
              cases hn : ((n : Int) == pl)
              · go_wp2_with fail
                go_ret
                exact ⟨by rw [HFIT.out]; simp [fits2, HTS.out, ht, hl, hn], HB.out⟩
              · go_wp2_with fail
                go_ret
                exact ⟨by rw [HFIT.out]; simp [fits2, HTS.out, ht, hl, hn], HB.out⟩
            · have hli : ¬ (t.size : Int) ≤ 65535 := by omega
              go_wp2_with fail
              go_ret
              exact ⟨by rw [HFIT.out]; simp [fits2, HTS.out, ht, hl], HB.out⟩
        · by_cases hl : t.size ≤ 65535
          · have hli : (t.size : Int) ≤ 65535 := by omega
            cases hn : ((n : Int) == pl)
            · go_wp2_with fail
              go_ret
              exact ⟨by rw [HFIT.out]; simp [fits2, HTS.out, hl, hn], HB.out⟩
            · go_wp2_with fail
              go_ret
              exact ⟨by rw [HFIT.out]; simp [fits2, HTS.out, hl, hn], HB.out⟩
          · have hli : ¬ (t.size : Int) ≤ 65535 := by omega
            go_wp2_with fail
            go_ret
            exact ⟨by rw [HFIT.out]; simp [fits2, HTS.out, hl], HB.out⟩
end Go.Proofs.YtbldidiibkcelaaGreatDoor

/-
  look, Valid (walks). Not a statement of the seat.
-/
namespace Go.Proofs.YtbldidiibkcelaaGreatDoor
open Go.RowKit

theorem At.split : ∀ (f : Fo) {S : Nat → Prop} {w : World} {g : Fo} {cs : List Value}, At S w (f.app g) cs → ∃ cs1 cs2, cs = cs1 ++ cs2 ∧ At S w f cs1 ∧ At S w g cs2
  | .nil, _, _, _, cs, h => ⟨[], cs, rfl, rfl, h⟩
  | .cons k i b t kids rest, _, _, _, cs, h => by
    obtain ⟨a, n, cap, ks, cs', rfl, h1, h3, h4⟩ := h
    obtain ⟨c1, c2, rfl, h5, h6⟩ := At.split rest h4
    exact ⟨_, c2, by simp, ⟨a, n, cap, ks, c1, rfl, h1, h3, h5⟩, h6⟩
/-- of each node's children -/
def Fo.All (P : Fo → Prop) : Fo → Prop
  | .nil => True
  | .cons _ _ _ _ kids rest => P kids ∧ rest.All P
theorem Fo.All.split {P : Fo → Prop} : ∀ (f : Fo) {g : Fo}, (f.app g).All P → g.All P
  | .nil, _, h => h
  | .cons _ _ _ _ _ rest, _, h => Fo.All.split rest h.2
def N2 (a b : Nat) : Nat → Prop := fun x => x = a ∨ x = b
def LP (pb mb : Nat) (w : World) (res : Bool × Nat × Nat) (e : Ending) (w' : World) : Prop :=
  e = .returned (.bool res.1) ∧ (Blk w' pb [.int .i64 (res.2.1 : Nat)] ∧ Blk w' mb [.int .i64 (res.2.2 : Nat)]) ∧ Kept (N2 pb mb) w w'
/-- look at a value with these children -/
def LOK (kids : Fo) : Prop := ∀ (k i b : Int) (t : Bs) (l : Option Addr) (n c : Nat) (S : Nat → Prop) (pb mb p m deep : Nat) (w : World), FoAt S w kids l n c → Blk w pb [.int .i64 (p : Nat)] → Blk w mb [.int .i64 (m : Nat)] → pb ≠ mb → ¬ S pb → ¬ S mb →
  deep ≤ 17 → p ≤ 4096 → Calls Tryz.prog 106 #[.agg #[.int .i64 k, .int .i64 i, .int .u64 b, .string ⟨t.toArray⟩, .slice l n c], .int .i64 (deep : Nat), .pointer (some ⟨pb, 0, none⟩), .pointer (some ⟨mb, 0, none⟩)] w
    (LP pb mb w (lookM (.cons k i b t kids .nil) deep p m))
theorem lookM_node (k i b : Int) (t : Bs) (kids : Fo) (deep p m : Nat) : lookM (.cons k i b t kids .nil) deep p m = if 4096 < p + 1 ∨ 16 < deep ∨ fitsM k i b t kids.len = false then (false, p + 1, max m deep) else lookM kids (deep + 1) (p + 1) (max m deep) := by
  rw [lookM]
  split
  · rfl
  · rcases h : lookM kids (deep + 1) (p + 1) (max m deep) with ⟨r, p', m'⟩
    cases r <;> rfl
theorem lookM_cons (k i b : Int) (t : Bs) (kids rest : Fo) (deep p m : Nat) : lookM (.cons k i b t kids rest) deep p m = match lookM (.cons k i b t kids .nil) deep p m with
    | (true, p', m') => lookM rest deep p' m'
    | (false, p', m') => (false, p', m') := by
  rw [lookM_node, lookM]
  split
  · rfl
  · rcases h : lookM kids (deep + 1) (p + 1) (max m deep) with ⟨r, p', m'⟩
    cases r <;> rfl
theorem lookM_le : ∀ (f : Fo) (deep p m p' m' : Nat), p ≤ 4096 → lookM f deep p m = (true, p', m') → p' ≤ 4096
  | .nil, deep, p, m, p', m', hp, h => by rw [lookM] at h; cases h; exact hp
  | .cons k i b t kids rest, deep, p, m, p', m', hp, h => by
    rw [lookM] at h
    split at h
    · cases h
    · rename_i hc
      rcases h1 : lookM kids (deep + 1) (p + 1) (max m deep) with ⟨r, p1, m1⟩
      rw [h1] at h
      cases r
      · cases h
      · exact lookM_le rest deep p1 m1 p' m' (lookM_le kids (deep + 1) (p + 1) (max m deep) p1 m1 (by omega) h1) h
/-- between two rounds -/
def LRel (kids : Fo) (pb mb deep : Nat) (w : World) (res : Bool × Nat × Nat) (t39 : Value) (wr : World) : Prop :=
  ∃ (dn rest : Fo) (p m : Nat), t39 = .int .i64 (dn.len : Nat) ∧ kids = dn.app rest ∧ (Blk wr pb [.int .i64 (p : Nat)] ∧ Blk wr mb [.int .i64 (m : Nat)]) ∧ Kept (N2 pb mb) w wr ∧ p ≤ 4096 ∧ lookM rest deep p m = res
theorem set1 {w : World} {b : Nat} {v : Value} (h : Blk w b [v]) (u : Value) : Blk (w.setCell ⟨b, 0, none⟩ u) b [u] := by simpa using h.set (j := 0) u
set_option maxHeartbeats 8000000 in
set_option maxRecDepth 100000 in
theorem lookN {kids : Fo} (hall : kids.All LOK) : LOK kids := by
  intro k i b t l n c S pb mb p m deep w hF hp hm hpm hSp hSm hd hp4
  generalize hres : lookM (.cons k i b t kids .nil) deep p m = res
  have hlen := hF.len
  rw [lookM_node, hlen] at hres
  have hA := Blk.new w #[.int .i64 k, .int .i64 i, .int .u64 b, .string ⟨t.toArray⟩, .slice l n c] 25
  have hBA : Below w.heap.size w (w.alloc (.cells #[.int .i64 k, .int .i64 i, .int .u64 b, .string ⟨t.toArray⟩, .slice l n c] 25)) := (Below.refl _ _).alloc (Nat.le_refl _) _
  have hpl := hp.lt
  have hml := hm.lt
  have hP := Blk.below hp hBA
  have hM := Blk.below hm hBA
  go_enter Tryz.func106, Tryz.ntmps106
  go_upto_region 1 with (fail)
  generalize w.alloc (.cells #[.int .i64 k, .int .i64 i, .int .u64 b, .string ⟨t.toArray⟩, .slice l n c] 25) = w0 at *
  obtain ⟨p1, hp1⟩ : ∃ p1, p1 = p + 1 := ⟨_, rfl⟩
  obtain ⟨m1, hm1⟩ : ∃ m1, m1 = max m deep := ⟨_, rfl⟩
  rw [← hp1, ← hm1] at hres
  have hpi : (p : Int) + 1 = (p1 : Int) := by omega
  have hmi : max (m : Int) (deep : Int) = (m1 : Int) := by omega
  have hmi' : max (deep : Int) (m : Int) = (m1 : Int) := by omega
  have HP1 := Lib.hid hp1
  clear hp1 hm1
  have cP := hP.cell 0 rfl
  have fP := hP.free 0 (by simp)
  have cM := hM.cell 0 rfl
  have fM := hM.free 0 (by simp)
  have HBA := Lib.hid hBA
  have hK1 : Kept (N2 pb mb) w ((w0.setCell ⟨pb, 0, none⟩ (.int .i64 (p1 : Nat))).setCell ⟨mb, 0, none⟩ (.int .i64 (m1 : Nat))) :=
    ((Kept.of' hBA).put (N := N2 pb mb) (p := ⟨pb, 0, none⟩) _ (fun _ => .inl rfl)).put (p := ⟨mb, 0, none⟩) _ (fun _ => .inr rfl)
  have hB1 : Blk ((w0.setCell ⟨pb, 0, none⟩ (.int .i64 (p1 : Nat))).setCell ⟨mb, 0, none⟩ (.int .i64 (m1 : Nat))) pb [.int .i64 (p1 : Nat)] := (set1 hP _).other (p := ⟨mb, 0, none⟩) _ (fun e => hpm e.symm)
  have hB2 : Blk ((w0.setCell ⟨pb, 0, none⟩ (.int .i64 (p1 : Nat))).setCell ⟨mb, 0, none⟩ (.int .i64 (m1 : Nat))) mb [.int .i64 (m1 : Nat)] := set1 (hM.other (p := ⟨pb, 0, none⟩) _ hpm) _
  have hA2 := (hA.other (p := ⟨pb, 0, none⟩) (.int .i64 (p1 : Nat)) (by show pb ≠ _; omega)).other (p := ⟨mb, 0, none⟩) (.int .i64 (m1 : Nat)) (by show mb ≠ _; omega)
  have hcM : (w0.setCell ⟨pb, 0, none⟩ (.int .i64 (p1 : Nat))).cell? ⟨mb, 0, none⟩ = some (.int .i64 (m : Nat)) := (hM.other (p := ⟨pb, 0, none⟩) _ hpm).cell 0 rfl
  have hfM : (w0.setCell ⟨pb, 0, none⟩ (.int .i64 (p1 : Nat))).frozen? ⟨mb, 0, none⟩ = false := (hM.other (p := ⟨pb, 0, none⟩) _ hpm).free 0 (by simp)
  have H2 := Lib.hid (And.intro hB1 (And.intro hB2 (And.intro hK1 hA2)))
  have HF := Lib.hid hF
  clear hP hM hBA hA hB1 hB2 hA2 hK1 hp hm hF
  go_upto_region 3 with (fail)
  generalize (w0.setCell ⟨pb, 0, none⟩ (.int .i64 (p1 : Nat))).setCell ⟨mb, 0, none⟩ (.int .i64 (m1 : Nat)) = w1 at *
  have hA2 := H2.out.2.2.2
  have b0 := hA2.cell 0 rfl
  have b1 := hA2.cell 1 rfl
  have b2 := hA2.cell 2 rfl
  have b3 := hA2.cell 3 rfl
  have b4 := hA2.cell 4 rfl
  have d0 := H2.out.1.cell 0 rfl
  have hend : ∀ wx, Below w1.heap.size w1 wx → LP pb mb w (false, p1, m1) (.returned (.bool false)) wx := fun wx hb =>
    ⟨rfl, ⟨H2.out.1.below hb, H2.out.2.1.below hb⟩, H2.out.2.2.1.calm hb⟩
  clear hA2 cP fP cM fM hcM hfM hpi hmi hmi'
  by_cases h1 : 4096 < p1
  · have h1i : (4096 : Int) < (p1 : Int) := by omega
    rw [if_pos (.inl h1)] at hres
    subst hres
    have HE := Lib.hid hend
    clear h1 hend
    go_wp2_with fail
    go_ret
    exact HE.out _ (Below.refl _ _)
  · have h1i : ¬ (4096 : Int) < (p1 : Int) := by omega
    by_cases h2 : 16 < deep
    · have h2i : (16 : Int) < (deep : Int) := by omega
      rw [if_pos (.inr (.inl h2))] at hres
      subst hres
      have HE := Lib.hid hend
      clear h1 h2 hend
      go_wp2_with fail
      go_ret
      exact HE.out _ (Below.refl _ _)
    · have h2i : ¬ (16 : Int) < (deep : Int) := by omega
      have HFT := Lib.hid (fitsN k i b ⟨t.toArray⟩ l n c w1)
      cases hft : fitsM k i b t n
      · rw [if_pos (.inr (.inr hft))] at hres
        subst hres
        have hft' : fitsM k i b (⟨t.toArray⟩ : ByteArray).data.toList n = false := hft
        have HE := Lib.hid hend
        clear h1 h2 hend
        go_wp2_with (go_at_call 115; (with_reducible refine HFT.out.mono ?_); rintro e w2 ⟨rfl, hB⟩; rw [hft'])
        go_ret
        exact HE.out _ hB
      · rw [if_neg (by rw [hft]; simp; omega)] at hres
        have hft' : fitsM k i b (⟨t.toArray⟩ : ByteArray).data.toList n = true := hft
        clear hend
        go_wp2_with (go_at_call 115; (with_reducible refine HFT.out.mono ?_); rintro e w2 ⟨rfl, hB⟩; rw [hft']; have b4b := cellAt hB b4; clear b0 b1 b2 b3 b4 d0)
        have hK2 : Kept (N2 pb mb) w w2 := H2.out.2.2.1.calm hB
        have H0 := Lib.hid (show LRel kids pb mb (deep + 1) w res (.int .i64 0) w2 from ⟨.nil, kids, p1, m1, rfl, rfl, ⟨H2.out.1.below hB, H2.out.2.1.below hB⟩, hK2, by omega, hres⟩)
        obtain ⟨d1, hd1⟩ : ∃ d1, d1 = deep + 1 := ⟨_, rfl⟩
        rw [← hd1] at H0
        have hd17 : d1 ≤ 17 := by omega
        have hd1i : (deep : Int) + 1 = (d1 : Int) := by omega
        have HALL := Lib.hid hall
        have HLEN := Lib.hid hlen
        have HND := Lib.hid (show ¬ S pb ∧ ¬ S mb from ⟨hSp, hSm⟩)
        clear hres hft hft' hB hK2 hall hlen h1 h1i h2 h2i hd1 H2 HFT hd HP1 hSp hSm hp4
        go_loopw [39] (fun t39 wr => LRel kids pb mb d1 w res t39 wr) (fun t39 _ => n - (intOf t39).toNat)
        case atStart => exact H0.out
        case round =>
          obtain ⟨dn, rest, p, m, rfl, hk, ⟨hP, hM⟩, hK, hp4, hl⟩ := hrel
          have hlen := HLEN.out
          rw [hk, Fo.len_app] at hlen
          have HK := Lib.hid hK
          have HP := Lib.hid hP
          have HM := Lib.hid hM
          have hFr : FoAt S wr kids l n c := HF.out.same (fun x hx hlt => hK.block x hlt (fun e => by rcases e with rfl | rfl; exact HND.out.1 hx; exact HND.out.2 hx)) (fun x hx _ => hx)
          clear hK hP hM H0
          cases rest with
          | nil =>
            have hj : ¬ (dn.len : Int) < (n : Int) := by have : Fo.len .nil = 0 := rfl; omega
            rw [lookM] at hl
            have HR := Lib.hid hl
            clear hl hk hlen hFr
            go_wp2_with fail
            go_ret
            rw [← HR.out]
            exact ⟨rfl, ⟨HP.out, HM.out⟩, HK.out⟩
          | cons k2 i2 b2 t2 ks rest2 =>
            have hlr : (Fo.cons k2 i2 b2 t2 ks rest2).len = rest2.len + 1 := rfl
            have hjn : dn.len < n := by omega
            have hj : (dn.len : Int) < (n : Int) := by omega
            obtain ⟨cs, ⟨hRd, hSx⟩, hAt⟩ := hFr
            have hHead := hRd.at (k := dn.len) hjn
            have hnb : n ≤ 9223372036854775807 := by have h1 := hRd.le; have h2 := hRd.max; unfold maxLen at h2; omega
            rw [hk] at hAt
            obtain ⟨cs1, cs2, rfl, hA1, hA2⟩ := At.split dn hAt
            have hl1 := At.len dn hA1
            obtain ⟨a2, n2, cap2, ks2, cs', rfl, hKid, hKidAt, _⟩ := hA2
            obtain ⟨bb, off, rfl, hlt, hc⟩ := hHead
            have hcell : ∀ i, i < 5 → wr.cell? ⟨bb, off + dn.len * 5 + i, none⟩ = [Value.int .i64 k2, .int .i64 i2, .int .u64 b2, .string ⟨t2.toArray⟩, .slice a2 n2 cap2][i]? := fun i hi => by
              rw [hc i hi, List.getElem?_append_right (by omega), hl1, Nat.add_sub_cancel_left]
              match i, hi with
              | 0, _ => rfl
              | 1, _ => rfl
              | 2, _ => rfl
              | 3, _ => rfl
              | 4, _ => rfl
            have hkF : FoAt S wr ks a2 n2 cap2 := ⟨ks2, hKid, hKidAt⟩
            have e0 := hcell 0 (by omega)
            have e1 := hcell 1 (by omega)
            have e2 := hcell 2 (by omega)
            have e3 := hcell 3 (by omega)
            have e4 := hcell 4 (by omega)
            simp only [List.getElem?_cons_zero, List.getElem?_cons_succ, Nat.add_zero] at e0 e1 e2 e3 e4
            have hLOK : LOK ks := by
              have hal := HALL.out
              rw [hk] at hal
              exact (Fo.All.split dn hal).1
            have HKF := Lib.hid hkF
            have HLOK := Lib.hid hLOK
            have HKK := Lib.hid hk
            have HJ := Lib.hid hjn
            clear hkF hLOK hk hcell hc hRd hSx hAt hA1 hKid hKidAt hl1 hlen hlr hlt hjn
            rw [lookM_cons] at hl
            generalize hjj : dn.len = j at *
            have HJJ := Lib.hid hjj
            clear hjj
            have hab : Below wr.heap.size wr (wr.alloc (.cells #[.int .i64 k2, .int .i64 i2, .int .u64 b2, .string ⟨t2.toArray⟩, .slice a2 n2 cap2] 25)) := (Below.refl _ _).alloc (Nat.le_refl _) _
            have HC := Lib.hid (HLOK.out k2 i2 b2 t2 a2 n2 cap2 S pb mb p m d1 (wr.alloc (.cells #[.int .i64 k2, .int .i64 i2, .int .u64 b2, .string ⟨t2.toArray⟩, .slice a2 n2 cap2] 25))
              (HKF.out.same (fun x hx hlt => hab.block x hlt) (fun x hx _ => hx)) (HP.out.below hab) (HM.out.below hab) hpm HND.out.1 HND.out.2 hd17 hp4)
            have HAB := Lib.hid hab
            clear hab
            rcases hc : lookM (.cons k2 i2 b2 t2 ks .nil) d1 p m with ⟨r, p', m'⟩
            rw [hc] at hl HC
            cases r
            · have HR := Lib.hid hl
              clear hl hc
              go_wp2_with (go_at_call 106; (with_reducible refine HC.out.mono ?_); rintro e w4 ⟨rfl, ⟨hP4, hM4⟩, hK4⟩)
              go_ret
              rw [← HR.out]
              exact ⟨rfl, ⟨hP4, hM4⟩, (HK.out.calm HAB.out).trans hK4⟩
            · have HR := Lib.hid hl
              have HPL := Lib.hid (lookM_le _ _ _ _ _ _ hp4 hc)
              clear hl hc
              go_wp2_with (go_at_call 106; (with_reducible refine HC.out.mono ?_); rintro e w4 ⟨rfl, ⟨hP4, hM4⟩, hK4⟩)
              go_roundw
              case rel =>
                refine ⟨dn.app (.cons k2 i2 b2 t2 ks .nil), rest2, p', m', ?_, ?_, ⟨hP4, hM4⟩, (HK.out.calm HAB.out).trans hK4, HPL.out, HR.out⟩
                · rw [Fo.len_app, HJJ.out, show (Fo.cons k2 i2 b2 t2 ks .nil).len = 1 from rfl]; go_num
                · rw [Fo.app_assoc]; exact HKK.out
              case measure => simp [intOf]; have := HJ.out; omega
theorem lookAll : ∀ f : Fo, f.All LOK
  | .nil => trivial
  | .cons _ _ _ _ kids rest => ⟨lookN (lookAll kids), lookAll rest⟩
theorem lookG (kids : Fo) : LOK kids := lookN (lookAll kids)
def v3 (w : World) (d : Dt) (l : Option Addr) (n c : Nat) : World :=
  ((w.alloc (.cells #[.int .i64 d.k, .int .i64 d.i, .int .u64 d.b, .string ⟨d.t.toArray⟩, .slice l n c] 25)).alloc (.cells #[.int .i64 0] 3)).alloc (.cells #[.int .i64 0] 3)
theorem v3_facts (w : World) (d : Dt) (l : Option Addr) (n c : Nat) : Blk (v3 w d l n c) w.heap.size [.int .i64 d.k, .int .i64 d.i, .int .u64 d.b, .string ⟨d.t.toArray⟩, .slice l n c] ∧
    Blk (v3 w d l n c) (w.heap.size + 1) [.int .i64 ((0 : Nat) : Int)] ∧ Blk (v3 w d l n c) (w.heap.size + 1 + 1) [.int .i64 ((0 : Nat) : Int)] ∧ Below w.heap.size w (v3 w d l n c) := by
  refine ⟨((Blk.new w _ _).alloc _).alloc _, ?_, ?_, (((Below.refl _ w).alloc (Nat.le_refl _) _).alloc (by simp) _).alloc (by simp; omega) _⟩
  · have := (Blk.new (w.alloc (.cells #[.int .i64 d.k, .int .i64 d.i, .int .u64 d.b, .string ⟨d.t.toArray⟩, .slice l n c] 25)) #[.int .i64 0] 3).alloc (.cells #[.int .i64 0] 3)
    simpa [v3] using this
  · have := Blk.new ((w.alloc (.cells #[.int .i64 d.k, .int .i64 d.i, .int .u64 d.b, .string ⟨d.t.toArray⟩, .slice l n c] 25)).alloc (.cells #[.int .i64 0] 3)) #[.int .i64 0] 3
    simpa [v3] using this
/-- whether a value is one -/
def validD (d : Dt) : Bool := (lookM d.fo 1 0 0).1
/-- Valid: whether a value is as its kind has it, in all its parts -/
theorem validN {S : Nat → Prop} {d : Dt} {l : Option Addr} {n c : Nat} {w : World} (hF : FoAt S w d.l l n c) (hS : ∀ x, S x → x < w.heap.size) :
    Calls Tryz.prog 105 #[.agg #[.int .i64 d.k, .int .i64 d.i, .int .u64 d.b, .string ⟨d.t.toArray⟩, .slice l n c]] w (fun e w' => e = .returned (.bool (validD d)) ∧ Below w.heap.size w w') := by
  have hA := (Blk.new w #[.int .i64 d.k, .int .i64 d.i, .int .u64 d.b, .string ⟨d.t.toArray⟩, .slice l n c] 25)
  have hW := Lib.hid (v3_facts w d l n c)
  have HF := Lib.hid hF
  have HS := Lib.hid hS
  clear hF hS hA
  go_enter Tryz.func105, Tryz.ntmps105
  go_upto_region 2 with (fail)
  change Code.wp _ _ _ _ (v3 w d l n c)
  generalize hv3 : v3 w d l n c = w3 at *
  have b0 := hW.out.1.cell 0 rfl
  have b1 := hW.out.1.cell 1 rfl
  have b2 := hW.out.1.cell 2 rfl
  have b3 := hW.out.1.cell 3 rfl
  have b4 := hW.out.1.cell 4 rfl
  have HC := Lib.hid (lookG d.l d.k d.i d.b d.t l n c S (w.heap.size + 1) (w.heap.size + 1 + 1) 0 0 1 w3 (HF.out.same (fun x hx hlt => hW.out.2.2.2.block x hlt) (fun x hx _ => hx)) hW.out.2.1 hW.out.2.2.1 (by omega)
    (fun h => by have := HS.out _ h; omega) (fun h => by have := HS.out _ h; omega) (by omega) (by omega))
  clear hv3
  go_wp2_with (go_at_call 106; refine HC.out.mono ?_; rintro e w4 ⟨rfl, hP4, hK4⟩)
  go_ret
  exact ⟨rfl, (hW.out.2.2.2.trans (hK4.below (Nat.le_of_lt (Nat.lt_of_lt_of_le (Nat.lt_succ_self _) (Nat.le_of_lt hW.out.2.1.lt))) (fun b hb e => by rcases e with e | e <;> omega)))⟩
end Go.Proofs.YtbldidiibkcelaaGreatDoor

/-
  When two values are the same (plain laws). Not a statement of the seat.
-/
namespace Go.Proofs.YtbldidiibkcelaaGreatDoor
open Go.RowKit

def sameM : Fo → Fo → Bool
  | .nil, .nil => true
  | .cons k i b t kids rest, .cons k' i' b' t' kids' rest' => ((k == k' && (i == i' && (b == b' && (t == t' && kids.len == kids'.len)))) && sameM kids kids') && sameM rest rest'
  | _, _ => false
/-- the heads alone -/
def headM (k i b : Int) (t : Bs) (n : Nat) (k' i' b' : Int) (t' : Bs) (n' : Nat) : Bool := k == k' && (i == i' && (b == b' && (t == t' && n == n')))
theorem sameM_len : ∀ (f g : Fo), sameM f g = true → f.len = g.len
  | .nil, .nil, _ => rfl
  | .cons _ _ _ _ _ r, .cons _ _ _ _ _ r', h => by
    simp only [sameM, Bool.and_eq_true] at h
    simp only [Fo.len, sameM_len r r' h.2]
  | .nil, .cons _ _ _ _ _ _, h => by simp [sameM] at h
  | .cons _ _ _ _ _ _, .nil, h => by simp [sameM] at h
/-- the same means equal -/
theorem sameM_eq : ∀ (f g : Fo), sameM f g = true ↔ f = g
  | .nil, .nil => by simp [sameM]
  | .cons k i b t ks r, .cons k' i' b' t' ks' r' => by
    simp only [sameM, Bool.and_eq_true, beq_iff_eq, sameM_eq ks ks', sameM_eq r r', Fo.cons.injEq]
    constructor
    · rintro ⟨⟨⟨h1, h2, h3, h4, h5⟩, h6⟩, h7⟩; exact ⟨h1, h2, h3, h4, h6, h7⟩
    · rintro ⟨h1, h2, h3, h4, h6, h7⟩; exact ⟨⟨⟨h1, h2, h3, h4, by rw [h6]⟩, h6⟩, h7⟩
  | .nil, .cons _ _ _ _ _ _ => by simp [sameM]
  | .cons _ _ _ _ _ _, .nil => by simp [sameM]
/-- an element of a row, by its place: its five cells, and its children -/
theorem FoAt.elem {S : Nat → Prop} {w : World} {dn ks rest : Fo} {k i b : Int} {t : Bs} {l : Option Addr} {n c : Nat} (h : FoAt S w (dn.app (.cons k i b t ks rest)) l n c) :
    ∃ bb off a n2 cap, l = some ⟨bb, off, none⟩ ∧ FoAt S w ks a n2 cap ∧ w.cell? ⟨bb, off + dn.len * 5, none⟩ = some (.int .i64 k) ∧ w.cell? ⟨bb, off + dn.len * 5 + 1, none⟩ = some (.int .i64 i) ∧ w.cell? ⟨bb, off + dn.len * 5 + 2, none⟩ = some (.int .u64 b) ∧
      w.cell? ⟨bb, off + dn.len * 5 + 3, none⟩ = some (.string ⟨t.toArray⟩) ∧ w.cell? ⟨bb, off + dn.len * 5 + 4, none⟩ = some (.slice a n2 cap) ∧ n ≤ 9223372036854775807 ∧ dn.len < n := by
  have hlen := h.len
  rw [Fo.len_app] at hlen
  have hlr : (Fo.cons k i b t ks rest).len = rest.len + 1 := rfl
  have hjn : dn.len < n := by omega
  obtain ⟨cs, ⟨hRd, hSx⟩, hAt⟩ := h
  have hHead := hRd.at (k := dn.len) hjn
  have hnb : n ≤ 9223372036854775807 := by have h1 := hRd.le; have h2 := hRd.max; unfold maxLen at h2; omega
  obtain ⟨cs1, cs2, rfl, hA1, hA2⟩ := At.split dn hAt
  have hl1 := At.len dn hA1
  obtain ⟨a2, n2, cap2, ks2, cs', rfl, hKid, hKidAt, _⟩ := hA2
  obtain ⟨bb2, off, rfl, hlt, hc⟩ := hHead
  have hcell : ∀ j, j < 5 → w.cell? ⟨bb2, off + dn.len * 5 + j, none⟩ = [Value.int .i64 k, .int .i64 i, .int .u64 b, .string ⟨t.toArray⟩, .slice a2 n2 cap2][j]? := fun j hj => by
    rw [hc j hj, List.getElem?_append_right (by omega), hl1, Nat.add_sub_cancel_left]
    match j, hj with
    | 0, _ => rfl
    | 1, _ => rfl
    | 2, _ => rfl
    | 3, _ => rfl
    | 4, _ => rfl
  exact ⟨bb2, off, a2, n2, cap2, rfl, ⟨ks2, hKid, hKidAt⟩, hcell 0 (by omega), hcell 1 (by omega), hcell 2 (by omega), hcell 3 (by omega), hcell 4 (by omega), hnb, hjn⟩
end Go.Proofs.YtbldidiibkcelaaGreatDoor

