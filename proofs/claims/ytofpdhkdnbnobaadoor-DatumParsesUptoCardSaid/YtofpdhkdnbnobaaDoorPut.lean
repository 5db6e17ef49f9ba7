/-
  put (walks). Not a statement of the seat.
-/
import Derived.Test.YtofpdhkdnbnobaaDoorFmtU
import Derived.Deep.RegionHeld3
namespace Go.Proofs.YtofpdhkdnbnobaaDoor
open Go.RowKit

/-- the numbers of all nodes in range -/
def Fo.plain : Fo → Prop
  | .nil => True
  | .cons _ i b _ kids rest => ((0 ≤ b ∧ b < 18446744073709551616) ∧ -9223372036854775808 ≤ i ∧ i ≤ 9223372036854775807) ∧ kids.plain ∧ rest.plain
/-- how long a text may be -/
def Fo.wt : Fo → Nat
  | .nil => 0
  | .cons _ _ _ t kids rest => 4 * t.length + 110 + kids.wt + rest.wt

theorem decF_len : ∀ f u, (decF f u).length ≤ f
  | 0, _ => by simp [decF]
  | f + 1, u => by
    have := decF_len f (u / 10)
    unfold decF
    split <;> simp <;> omega
theorem dec_len (n : Int) : (dec n).length ≤ 21 := by
  unfold dec
  have h1 := decF_len 20 n.natAbs
  have h2 := decF_len 20 n.toNat
  split <;> (try simp only [List.length_cons]) <;> omega
theorem hexN_len : ∀ n b, (hexN n b).length = n
  | 0, _ => rfl
  | n + 1, b => by simp [hexN, hexN_len n]
theorem quoteM_len (t : Bs) : (quoteM t).length ≤ 4 * t.length + 2 := by
  have := quote_len t
  simp only [quoteM, List.length_cons, List.length_append, List.length_nil]
  omega
theorem ite_len {p : Prop} [Decidable p] {a b : Bs} {n : Nat} (ha : a.length ≤ n) (hb : b.length ≤ n) : (if p then a else b).length ≤ n := by split <;> assumption
theorem oneM_len (k i b : Int) (t kids : Bs) : (oneM k i b t kids).length ≤ 4 * t.length + 90 + kids.length := by
  have h1 := dec_len i
  have h2 := quoteM_len t
  have h3 := hexN_len 16 b.toNat
  have h4 := pairs_len t
  unfold oneM
  repeat' (with_reducible refine ite_len ?_ ?_)
  all_goals (try simp only [List.length_cons, List.length_append, List.length_nil])
  all_goals omega
theorem rowP_len : ∀ (f : Fo) (fst : Bool), (rowP fst f).length ≤ f.wt
  | .nil, _ => by simp [rowP]
  | .cons k i b t kids rest, fst => by
    have h1 := rowP_len kids true
    have h2 := rowP_len rest false
    have h3 := oneM_len k i b t (rowP true kids)
    have h4 : (if fst then ([] : Bs) else [44, 32]).length ≤ 2 := by cases fst <;> simp
    simp only [rowP, Fo.wt, List.length_append]
    omega
theorem rowP_snoc : ∀ (f : Fo) (fst : Bool) (k i b : Int) (t : Bs) (ks : Fo), rowP fst (f.app (.cons k i b t ks .nil)) = rowP fst f ++ ((if fst && f.len == 0 then [] else [44, 32]) ++ oneM k i b t (rowP true ks))
  | .nil, fst, k, i, b, t, ks => by cases fst <;> simp [Fo.app, rowP, Fo.len]
  | .cons k1 i1 b1 t1 ks1 rest, fst, k, i, b, t, ks => by
    rw [Fo.app, rowP, rowP_snoc rest false, rowP]
    simp [Fo.len, List.append_assoc]
theorem wt_app : ∀ (f g : Fo), (f.app g).wt = f.wt + g.wt
  | .nil, g => by simp [Fo.app, Fo.wt]
  | .cons _ _ _ _ _ r, g => by simp only [Fo.app, Fo.wt, wt_app r g]; omega
theorem plain_app : ∀ (f : Fo) {g : Fo}, (f.app g).plain → g.plain
  | .nil, _, h => h
  | .cons _ _ _ _ _ r, _, h => plain_app r h.2.2

def PutP (B bb : Nat) (acc : Bs) (w : World) (e : Ending) (w' : World) : Prop := e = .returned (.tuple #[]) ∧ Bd B bb acc w' ∧ Kb B bb w w'
/-- put of a value with these children -/
def PutOK (kids : Fo) : Prop := ∀ (k i b : Int) (t : Bs) (l : Option Addr) (n c : Nat) (S : Nat → Prop) (B bb : Nat) (acc : Bs) (w : World), FoAt S w kids l n c → (∀ x, S x → x < B) → Bd B bb acc w → B ≤ bb → bb < w.heap.size → Lb w → 7 ≤ B →
  ((0 ≤ b ∧ b < 18446744073709551616) ∧ -9223372036854775808 ≤ i ∧ i ≤ 9223372036854775807) → kids.plain → acc.length + 4 * t.length + 100 + kids.wt ≤ big →
  Calls Tryd.prog 34 #[.pointer (some ⟨bb, 0, none⟩), .agg #[.int .i64 k, .int .i64 i, .int .u64 b, .string ⟨t.toArray⟩, .slice l n c]] w (PutP B bb (acc ++ oneM k i b t (rowP true kids)) w)

def PRel (kids : Fo) (B bb pb db : Nat) (vs : List Value) (acc : Bs) (w : World) (t14 : Value) (wr : World) : Prop :=
  ∃ (dn rest : Fo), t14 = .int .i64 (dn.len : Nat) ∧ kids = dn.app rest ∧ (Bd B bb (acc ++ rowP true dn) wr ∧ Kb B bb w wr) ∧ TB wr pb [.pointer (some ⟨bb, 0, none⟩)] ∧ TB wr db vs

set_option maxHeartbeats 8000000 in
set_option maxRecDepth 100000 in
theorem putRow {kids : Fo} (hall : kids.All PutOK) {k i b : Int} {t : Bs} {l : Option Addr} {n c : Nat} {S : Nat → Prop} {B bb pb db : Nat} {acc : Bs} {o e : ByteArray} {w : World} (hF : FoAt S w kids l n c) (hS : ∀ x, S x → x < B) (hB : Bd B bb acc w) (hBb : B ≤ bb) (hbw : bb < w.heap.size)
    (hL : Lb w) (h7 : 7 ≤ B) (hp : TB w pb [.pointer (some ⟨bb, 0, none⟩)]) (hd : TB w db [.int .i64 k, .int .i64 i, .int .u64 b, .string ⟨t.toArray⟩, .slice l n c]) (hpb : pb ≠ bb) (hdb : db ≠ bb) (hpl : kids.plain) (hbig : acc.length + o.size + kids.wt + e.size ≤ big) :
    Calls Tryd.prog 53 #[.string o, .string e, .pointer (some ⟨pb, 0, none⟩), .pointer (some ⟨db, 0, none⟩)] w (PutP B bb (acc ++ o.data.toList ++ rowP true kids ++ e.data.toList) w) := by
  have hlen := hF.len
  have cp := hp.1.cell 0 rfl
  have HC := Lib.hid (writeS (s := o) hB (by unfold big at *; omega))
  have HF := Lib.hid hF
  have HP := Lib.hid hp
  have HD := Lib.hid hd
  have HL := Lib.hid hL
  have HLEN := Lib.hid hlen
  have HALL := Lib.hid hall
  have HPL := Lib.hid hpl
  have HBIG := Lib.hid hbig
  have HSB := Lib.hid hS
  clear hF hB hL hp hd hlen hall hpl hbig hS
  go_enter Tryd.func53, Tryd.ntmps53
  go_upto_region 1 with (first
    | (go_at_call 54; (with_reducible refine HC.out.mono ?_); rintro e1 w1 ⟨rfl, hBx, hKx⟩; have HB1 := Lib.hid hBx; have HK1 := Lib.hid hKx; have d4 := (HD.out.kb hKx hdb).1.cell 4 rfl; clear hBx hKx))
  have H0 := Lib.hid (show PRel kids B bb pb db [.int .i64 k, .int .i64 i, .int .u64 b, .string ⟨t.toArray⟩, .slice l n c] (acc ++ o.data.toList) w (.int .i64 0) w1 from ⟨.nil, kids, rfl, rfl, ⟨by simpa [rowP] using HB1.out, HK1.out⟩, HP.out.kb HK1.out hpb, HD.out.kb HK1.out hdb⟩)
  clear HC HB1 HK1 cp
  go_wp2_with fail
  go_loopw [14] (fun t14 wr => PRel kids B bb pb db [.int .i64 k, .int .i64 i, .int .u64 b, .string ⟨t.toArray⟩, .slice l n c] (acc ++ o.data.toList) w t14 wr) (fun t14 _ => n - (intOf t14).toNat)
  case atStart => exact H0.out
  case round =>
    obtain ⟨dn, rest, rfl, hk, ⟨hB, hK⟩, hp, hd⟩ := hrel
    have cp := hp.1.cell 0 rfl
    have hlen := HLEN.out
    rw [hk, Fo.len_app] at hlen
    have HB := Lib.hid hB
    have HK := Lib.hid hK
    have HP1 := Lib.hid hp
    have HD1 := Lib.hid hd
    have hwt := wt_app dn rest
    have hrl := rowP_len dn true
    clear hB hK hp hd H0 d4
    cases rest with
    | nil =>
      have hj : ¬ (dn.len : Int) < (n : Int) := by have : Fo.len .nil = 0 := rfl; omega
      have hke : kids = dn := by rw [hk, Fo.app_nil]
      have HC := Lib.hid (writeS (s := e) HB.out (by have := HBIG.out; rw [hke] at this; rw [List.length_append, List.length_append, ← Lib.size_eq]; unfold big at *; omega))
      have HKE := Lib.hid hke
      clear hk hlen hwt hrl hke
      go_wp2_with (go_at_call 54; (with_reducible refine HC.out.mono ?_); rintro e2 w2 ⟨rfl, hB2, hK2⟩)
      go_end0
      rw [HKE.out]
      exact ⟨rfl, hB2, HK.out.trans hK2⟩
    | cons k2 i2 b2 t2 ks rest2 =>
      have hlr : (Fo.cons k2 i2 b2 t2 ks rest2).len = rest2.len + 1 := rfl
      have hjn : dn.len < n := by omega
      have hj : (dn.len : Int) < (n : Int) := by omega
      have hFr : FoAt S wr kids l n c := HF.out.same (fun x hx hlt => HK.out.below.block x (HSB.out x hx)) (fun x hx _ => hx)
      obtain ⟨cs, ⟨hRd, hSx⟩, hAt⟩ := hFr
      have hHead := hRd.at (k := dn.len) hjn
      have hnb : n ≤ 9223372036854775807 := by have h1 := hRd.le; have h2 := hRd.max; unfold maxLen at h2; omega
      rw [hk] at hAt
      obtain ⟨cs1, cs2, rfl, hA1, hA2⟩ := At.split dn hAt
      have hl1 := At.len dn hA1
      obtain ⟨a2, n2, cap2, ks2, cs', rfl, hKid, hKidAt, _⟩ := hA2
      obtain ⟨bb2, off, rfl, hlt, hc⟩ := hHead
      have hcell : ∀ i, i < 5 → wr.cell? ⟨bb2, off + dn.len * 5 + i, none⟩ = [Value.int .i64 k2, .int .i64 i2, .int .u64 b2, .string ⟨t2.toArray⟩, .slice a2 n2 cap2][i]? := fun i hi => by
        rw [hc i hi, List.getElem?_append_right (by omega), hl1, Nat.add_sub_cancel_left]
        match i, hi with
        | 0, _ => rfl
        | 1, _ => rfl
        | 2, _ => rfl
        | 3, _ => rfl
        | 4, _ => rfl
      have hkF : FoAt S wr ks a2 n2 cap2 := ⟨ks2, hKid, hKidAt⟩
      have e0 := hcell 0 (by omega)
      have e1 := hcell 1 (by omega)
      have e2 := hcell 2 (by omega)
      have e3 := hcell 3 (by omega)
      have e4 := hcell 4 (by omega)
      simp only [List.getElem?_cons_zero, List.getElem?_cons_succ, Nat.add_zero] at e0 e1 e2 e3 e4
      have hPOK : PutOK ks := by
        have hal := HALL.out
        rw [hk] at hal
        exact (Fo.All.split dn hal).1
      have hpls := HPL.out
      rw [hk] at hpls
      have hpl2 := plain_app dn hpls
      have HPL2 := Lib.hid (show _ ∧ ks.plain from ⟨hpl2.1, hpl2.2.1⟩)
      have hw2 : kids.wt = dn.wt + (4 * t2.length + 110 + ks.wt + rest2.wt) := by rw [hk]; exact hwt
      have HW := Lib.hid (show acc.length + o.size + (rowP true dn).length + 4 * t2.length + 110 + ks.wt ≤ big by have := HBIG.out; omega)
      have HKF := Lib.hid hkF
      have HPOK := Lib.hid hPOK
      have HKK := Lib.hid hk
      have HJ := Lib.hid hjn
      clear hkF hPOK hk hcell hc hRd hSx hAt hA1 hKid hKidAt hl1 hlen hlr hlt hjn hpls hpl2 hw2 hwt hrl
      have hsn := rowP_snoc dn true k2 i2 b2 t2 ks
      have HSN := Lib.hid hsn
      clear hsn
      have hab : Below wr.heap.size wr (wr.alloc (.cells #[.int .i64 k2, .int .i64 i2, .int .u64 b2, .string ⟨t2.toArray⟩, .slice a2 n2 cap2] 25)) := (Below.refl _ _).alloc (Nat.le_refl _) _
      have HAB := Lib.hid hab
      have cpa := (HP1.out.below hab).1.cell 0 rfl
      have hos := Lib.size_eq o
      have HOS := Lib.hid hos
      clear hab hos
      by_cases hj0 : dn.len = 0
      · have hz : ¬ (0 : Int) < (dn.len : Int) := by omega
        have hsn := HSN.out
        rw [hj0] at hsn
        simp only [Bool.true_and, beq_self_eq_true, if_true, List.nil_append] at hsn
        have HC := Lib.hid (HPOK.out k2 i2 b2 t2 a2 n2 cap2 S B bb (acc ++ o.data.toList ++ rowP true dn) (wr.alloc (.cells #[.int .i64 k2, .int .i64 i2, .int .u64 b2, .string ⟨t2.toArray⟩, .slice a2 n2 cap2] 25))
          (HKF.out.same (fun x hx hlt => HAB.out.block x hlt) (fun x hx _ => hx)) HSB.out (HB.out.calm HAB.out) hBb (Nat.lt_of_lt_of_le hbw (Nat.le_trans HK.out.below.size HAB.out.size)) ((HL.out.below HK.out.below h7).below HAB.out (Nat.le_trans h7 HB.out.le)) h7 HPL2.out.1 HPL2.out.2 (by rw [List.length_append, List.length_append, ← HOS.out]; have := HW.out; omega))
        have HSN2 := Lib.hid hsn
        have HJ0 := Lib.hid hj0
        generalize hjj : dn.len = j at *
        have HJJ := Lib.hid hjj
        clear hsn HSN hj0 hjj
        go_wp2_with (go_at_call 34; (with_reducible refine HC.out.mono ?_); rintro e5 w5 ⟨rfl, hB5, hK5⟩)
        go_roundw
        case rel =>
          have hKz : Kb B bb wr w5 := (Kb.calm (Kb.refl _ _ _) HB.out.le HAB.out).trans hK5
          refine ⟨dn.app (.cons k2 i2 b2 t2 ks .nil), rest2, ?_, ?_, ⟨?_, HK.out.trans hKz⟩, HP1.out.kb hKz hpb, HD1.out.kb hKz hdb⟩
          · rw [Fo.len_app, HJJ.out, show (Fo.cons k2 i2 b2 t2 ks .nil).len = 1 from rfl]; go_num
          · rw [Fo.app_assoc]; exact HKK.out
          · rw [HSN2.out, ← List.append_assoc]; exact hB5
        case measure => simp [intOf]; have := HJ.out; omega
      · have hz : (0 : Int) < (dn.len : Int) := by omega
        have hsn := HSN.out
        simp only [Bool.true_and, beq_iff_eq, if_neg hj0] at hsn
        have HC1 := Lib.hid (writeS (s := ⟨#[44, 32]⟩) (HB.out.calm HAB.out) (by rw [List.length_append, List.length_append, ← HOS.out]; show _ + 2 ≤ big; have := HW.out; omega))
        have HSN2 := Lib.hid hsn
        generalize hjj : dn.len = j at *
        have HJJ := Lib.hid hjj
        clear hsn HSN hj0 hjj
        go_wp2_with (first
          | (go_at_call 54; (with_reducible refine HC1.out.mono ?_); rintro e5 w5 ⟨rfl, hB5, hK5⟩
             have HB5 := Lib.hid hB5
             have HK5 := Lib.hid ((Kb.calm (Kb.refl B bb wr) HB.out.le HAB.out).trans hK5)
             have cp5 := (HP1.out.kb HK5.out hpb).1.cell 0 rfl
             have hx5 := TB.kb (TB.new wr #[.int .i64 k2, .int .i64 i2, .int .u64 b2, .string ⟨t2.toArray⟩, .slice a2 n2 cap2] 25 (by decide)) hK5 (by have := HK.out.below.size; omega)
             have x0 := hx5.1.cell 0 rfl; have x1 := hx5.1.cell 1 rfl; have x2 := hx5.1.cell 2 rfl; have x3 := hx5.1.cell 3 rfl; have x4 := hx5.1.cell 4 rfl
             have HC := Lib.hid (HPOK.out k2 i2 b2 t2 a2 n2 cap2 S B bb _ w5 (HKF.out.same (fun x hx hlt => HK5.out.below.block x (HSB.out x hx)) (fun x hx _ => hx)) HSB.out HB5.out hBb (Nat.lt_of_lt_of_le hbw (Nat.le_trans HK.out.below.size HK5.out.below.size))
               ((HL.out.below HK.out.below h7).below HK5.out.below h7) h7 HPL2.out.1 HPL2.out.2 (by rw [List.length_append, List.length_append, List.length_append, ← HOS.out]; show _ + 2 + _ + _ + _ ≤ big; have := HW.out; omega))
             clear hB5 hK5 hx5)
          | (go_at_call 34; (with_reducible refine HC.out.mono ?_); rintro e6 w6 ⟨rfl, hB6, hK6⟩))
        go_roundw
        case rel =>
          have hKz : Kb B bb wr w6 := HK5.out.trans hK6
          refine ⟨dn.app (.cons k2 i2 b2 t2 ks .nil), rest2, ?_, ?_, ⟨?_, HK.out.trans hKz⟩, HP1.out.kb hKz hpb, HD1.out.kb hKz hdb⟩
          · rw [Fo.len_app, HJJ.out, show (Fo.cons k2 i2 b2 t2 ks .nil).len = 1 from rfl]; go_num
          · rw [Fo.app_assoc]; exact HKK.out
          · rw [HSN2.out, ← List.append_assoc, ← List.append_assoc]; exact hB6
        case measure => simp [intOf]; have := HJ.out; omega

set_option maxHeartbeats 16000000 in
set_option maxRecDepth 100000 in
theorem putN {kids : Fo} (hall : kids.All PutOK) : PutOK kids := by
  intro k i b t l n c S B bb acc w hF hS hB hBb hbw hL h7 hr hpl hbig
  have hmf : ∀ (fn : Fn) (first cap : Array Value) (w : World), (Instr.makeFunc fn first cap).run Tryd.prog w = .ok (.func fn first cap) w := fun _ _ _ _ => rfl
  have hBw := hB.le
  have ha1 : Below w.heap.size w (w.alloc (.cells #[.pointer (some ⟨bb, 0, none⟩)] 52)) := (Below.refl _ _).alloc (Nat.le_refl _) _
  have hp := (TB.new w #[.pointer (some ⟨bb, 0, none⟩)] 52 (by decide)).below ((Below.refl _ _).alloc (Nat.le_refl _) (.cells #[.int .i64 k, .int .i64 i, .int .u64 b, .string ⟨t.toArray⟩, .slice l n c] 25))
  have hd := TB.new (w.alloc (.cells #[.pointer (some ⟨bb, 0, none⟩)] 52)) #[.int .i64 k, .int .i64 i, .int .u64 b, .string ⟨t.toArray⟩, .slice l n c] 25 (by decide)
  have ha2 : Below w.heap.size w ((w.alloc (.cells #[.pointer (some ⟨bb, 0, none⟩)] 52)).alloc (.cells #[.int .i64 k, .int .i64 i, .int .u64 b, .string ⟨t.toArray⟩, .slice l n c] 25)) := ha1.alloc (by simp) _
  have hs1 : (w.alloc (.cells #[.pointer (some ⟨bb, 0, none⟩)] 52)).heap.size = w.heap.size + 1 := by simp
  rw [hs1] at hd
  go_enter Tryd.func34, Tryd.ntmps34
  go_upto_region 2 with (fail)
  generalize (w.alloc (.cells #[.pointer (some ⟨bb, 0, none⟩)] 52)).alloc (.cells #[.int .i64 k, .int .i64 i, .int .u64 b, .string ⟨t.toArray⟩, .slice l n c] 25) = w2 at *
  have HB2 := Lib.hid (hB.calm ha2)
  have HL2 := Lib.hid (hL.below ha2 (Nat.le_trans h7 hBw))
  have HKW := Lib.hid (Kb.calm (Kb.refl B bb w) hBw ha2)
  have hpb : w.heap.size ≠ bb := by omega
  have hdb : w.heap.size + 1 ≠ bb := by omega
  obtain ⟨pb, hpbe⟩ : ∃ pb, pb = w.heap.size := ⟨_, rfl⟩
  obtain ⟨db, hdbe⟩ : ∃ db, db = w.heap.size + 1 := ⟨_, rfl⟩
  rw [← hpbe] at hp hpb
  rw [← hdbe] at hd hdb
  rw [← hpbe] at hdbe
  rw [← hpbe, ← hdbe]
  have HPD := Lib.hid (And.intro hpbe hdbe)
  clear hpbe hdbe hs1
  have HF := Lib.hid hF
  have HR := Lib.hid hr.2
  have HP := Lib.hid hp
  have HD := Lib.hid hd
  have HKEEP := Lib.hid (show ∀ wx, Below w2.heap.size w2 wx → wx.cell? ⟨pb, 0, none⟩ = some (.pointer (some ⟨bb, 0, none⟩)) ∧ wx.cell? ⟨db, 1, none⟩ = some (.int .i64 i) ∧ wx.cell? ⟨db, 3, none⟩ = some (.string ⟨t.toArray⟩) from
    fun wx hx => ⟨(hp.below hx).1.cell 0 rfl, (hd.below hx).1.cell 1 rfl, (hd.below hx).1.cell 3 rfl⟩)
  have cp := hp.1.cell 0 rfl
  have d0 := hd.1.cell 0 rfl
  have d1 := hd.1.cell 1 rfl
  have d2 := hd.1.cell 2 rfl
  have d3 := hd.1.cell 3 rfl
  have hb9 := hr.1
  have hdl := dec_len i
  have hng1 : ¬ 9223372036854775807 < 1 + (dec i).length := by omega
  have hpl9 : (pairsM t).length ≤ 140737488355328 := by have := pairs_len t; unfold big at hbig; omega
  have hng2 : ¬ 9223372036854775807 < 1 + (pairsM t).length := by omega
  clear hF hB hL hp hd hr ha1 ha2
  by_cases hk : k = 0
  · subst hk
    have HC := Lib.hid (writeS (s := ⟨#[110, 105, 108]⟩) HB2.out (by show _ + 3 ≤ big; omega))
    go_wp2_with (go_at_call 54; (with_reducible refine HC.out.mono ?_); rintro e3 w3 ⟨rfl, hB3, hK3⟩)
    go_end0
    exact ⟨rfl, by have hfin := hB3; exact hfin, HKW.out.trans hK3⟩
  by_cases hk : k = 1
  · subst hk
    have HIN := Lib.hid (show ∀ wx, Below w2.heap.size w2 wx → Calls Tryd.prog 55 #[.int .i64 i] wx (fun e w' => e = .returned (.string ⟨(dec i).toArray⟩) ∧ Below wx.heap.size wx w') from fun wx hx => decimalN HR.out.1 HR.out.2 (HL2.out.below hx (Nat.le_trans h7 HB2.out.le)))
    have HWS := Lib.hid (show ∀ wx, Below w2.heap.size w2 wx → Calls Tryd.prog 54 #[.pointer (some ⟨bb, 0, none⟩), .string ⟨(dec i).toArray⟩] wx (fun e w' => e = .returned (.tuple #[.int .i64 (⟨(dec i).toArray⟩ : ByteArray).size, .nilIface]) ∧ Bd B bb (acc ++ dec i) w' ∧ Kb B bb wx w') from fun wx hx => by
      have h := writeS (s := ⟨(dec i).toArray⟩) (HB2.out.calm hx) (by rw [Lib.size_eq, show (⟨(dec i).toArray⟩ : ByteArray).data.toList = dec i from rfl]; omega)
      rw [show (⟨(dec i).toArray⟩ : ByteArray).data.toList = dec i from rfl] at h
      exact h)
    go_wp2_with fail
    go_region_held3 (fun wx : World => wx.cell? ⟨pb, 0, none⟩ = some (.pointer (some ⟨bb, 0, none⟩)) ∧ wx.cell? ⟨db, 1, none⟩ = some (.int .i64 i) ∧ wx.cell? ⟨db, 3, none⟩ = some (.string ⟨t.toArray⟩))
      (first | exact HKEEP.out _ (Below.refl _ _) | exact HKEEP.out _ (Below.refl _ _).drew | exact HKEEP.out _ HBA.out | exact HKB.out)
      (first
        | (go_simp; go_at_call 55; refine (HIN.out _ (Below.refl _ _).drew).mono ?_; rintro eA wA ⟨rfl, hbA⟩; have HBA := Lib.hid ((Below.refl w2.heap.size w2).drew.trans hbA); clear hbA)
        | (go_simp; go_at_call 54; refine (HWS.out _ HBA.out).mono ?_; rintro eB wB ⟨rfl, hBB, hKK⟩; have HBB := Lib.hid hBB; have HKK := Lib.hid ((Kb.calm (Kb.refl B bb w2) HB2.out.le HBA.out).trans hKK)
           have HKB := Lib.hid (And.intro ((HP.out.kb HKK.out hpb).1.cell 0 rfl) (And.intro ((HD.out.kb HKK.out hdb).1.cell 1 rfl) ((HD.out.kb HKK.out hdb).1.cell 3 rfl)))
           clear hBB hKK))
    all_goals
      go_wp2_with fail
      go_end0
      exact ⟨rfl, by have hfin := HBB.out; exact hfin, HKW.out.trans HKK.out⟩
  by_cases hk : k = 2
  · subst hk
    have HIN := Lib.hid (show ∀ wx, Below w2.heap.size w2 wx → Calls Tryd.prog 55 #[.int .i64 i] wx (fun e w' => e = .returned (.string ⟨(dec i).toArray⟩) ∧ Below wx.heap.size wx w') from fun wx hx => decimalN HR.out.1 HR.out.2 (HL2.out.below hx (Nat.le_trans h7 HB2.out.le)))
    have HWS := Lib.hid (show ∀ wx, Below w2.heap.size w2 wx → Calls Tryd.prog 54 #[.pointer (some ⟨bb, 0, none⟩), .string (⟨#[35]⟩ ++ ⟨(dec i).toArray⟩)] wx (fun e w' => e = .returned (.tuple #[.int .i64 ((⟨#[35]⟩ ++ ⟨(dec i).toArray⟩) : ByteArray).size, .nilIface]) ∧ Bd B bb (acc ++ (35 :: dec i)) w' ∧ Kb B bb wx w') from fun wx hx => by
      have h := writeS (s := (⟨#[35]⟩ ++ ⟨(dec i).toArray⟩)) (HB2.out.calm hx) (by rw [Lib.size_eq, show ((⟨#[35]⟩ ++ ⟨(dec i).toArray⟩) : ByteArray).data.toList = (35 :: dec i) from by rw [ByteArray.data_append, Array.toList_append]; rfl]; simp only [List.length_cons]; omega)
      rw [show ((⟨#[35]⟩ ++ ⟨(dec i).toArray⟩) : ByteArray).data.toList = (35 :: dec i) from by rw [ByteArray.data_append, Array.toList_append]; rfl] at h
      exact h)
    go_wp2_with fail
    go_region_held3 (fun wx : World => wx.cell? ⟨pb, 0, none⟩ = some (.pointer (some ⟨bb, 0, none⟩)) ∧ wx.cell? ⟨db, 1, none⟩ = some (.int .i64 i) ∧ wx.cell? ⟨db, 3, none⟩ = some (.string ⟨t.toArray⟩))
      (first | exact HKEEP.out _ (Below.refl _ _) | exact HKEEP.out _ (Below.refl _ _).drew | exact HKEEP.out _ HBA.out | exact HKB.out)
      (first
        | (go_simp; go_at_call 55; refine (HIN.out _ (Below.refl _ _).drew).mono ?_; rintro eA wA ⟨rfl, hbA⟩; have HBA := Lib.hid ((Below.refl w2.heap.size w2).drew.trans hbA); clear hbA)
        | (go_simp; go_at_call 54; refine (HWS.out _ HBA.out).mono ?_; rintro eB wB ⟨rfl, hBB, hKK⟩; have HBB := Lib.hid hBB; have HKK := Lib.hid ((Kb.calm (Kb.refl B bb w2) HB2.out.le HBA.out).trans hKK)
           have HKB := Lib.hid (And.intro ((HP.out.kb HKK.out hpb).1.cell 0 rfl) (And.intro ((HD.out.kb HKK.out hdb).1.cell 1 rfl) ((HD.out.kb HKK.out hdb).1.cell 3 rfl)))
           clear hBB hKK))
    all_goals
      go_wp2_with fail
      go_end0
      exact ⟨rfl, by have hfin := HBB.out; exact hfin, HKW.out.trans HKK.out⟩
  by_cases hk : k = 3
  · subst hk
    obtain ⟨u, rfl⟩ : ∃ u : Nat, b = (u : Int) := ⟨b.toNat, by omega⟩
    have hu : u < 18446744073709551616 := by omega
    have h64 : (16 : Nat) ^ (15 + 1) = 18446744073709551616 := by decide
    have hu16 : u < 16 ^ (15 + 1) := by omega
    have hxl := hx_len 15 u hu16
    have hone : oneM 3 i u t (rowP true kids) = 102 :: (List.replicate (16 - (hx u).length) 48 ++ hx u) := by
      rw [show 16 - (hx u).length = 15 + 1 - (hx u).length from rfl, hx_pad 15 u hu16]
      rfl
    have HONE := Lib.hid hone
    have HF1 := Lib.hid (fmtU hu HL2.out)
    clear hone hu16 h64
    generalize hx u = hs at *
    have hrl : List.replicate (16 - hs.length) (48 : UInt8) = Lib.repeatL [48] (16 - hs.length) := by
      generalize 16 - hs.length = m
      induction m with
      | zero => rfl
      | succ m ih => rw [List.replicate_succ, ih]; rfl
    have hrn : (List.replicate (16 - hs.length) (48 : UInt8)).length = 16 - hs.length := by simp
    have hsub : IntKind.i64.wrap (16 - (hs.length : Int)) = ((16 - hs.length : Nat) : Int) := by rw [wrapI (by omega) (by omega)]; omega
    go_wp2_with (go_at_call 56; (with_reducible refine HF1.out.mono ?_); rintro e3 w3 ⟨rfl, hb3⟩; have HB3 := Lib.hid hb3; clear hb3)
    have HKEEP3 := Lib.hid (show ∀ wx, Below w3.heap.size w3 wx → wx.cell? ⟨pb, 0, none⟩ = some (.pointer (some ⟨bb, 0, none⟩)) from fun wx hx => ((HP.out.below HB3.out).below hx).1.cell 0 rfl)
    have cp3 := HKEEP3.out _ (Below.refl _ _)
    have HRP := Lib.hid (show ∀ wx, Below w3.heap.size w3 wx → Calls Tryd.prog 57 #[.string ⟨#[48]⟩, .int .i64 ((16 - hs.length : Nat) : Int)] wx (fun e w' => e = .returned (.string ⟨(List.replicate (16 - hs.length) (48 : UInt8)).toArray⟩) ∧ Below wx.heap.size wx w') from fun wx hx => by
      have h := Tryd.strings_Repeat ⟨#[48]⟩ (16 - hs.length) wx (by omega) (by show 1 * _ ≤ _; omega)
      rw [hrl]
      exact h)
    generalize hrr : List.replicate (16 - hs.length) (48 : UInt8) = rs at *
    have HWS := Lib.hid (show ∀ wx, Below w3.heap.size w3 wx → Calls Tryd.prog 54 #[.pointer (some ⟨bb, 0, none⟩), .string (⟨#[102]⟩ ++ ⟨rs.toArray⟩ ++ ⟨hs.toArray⟩)] wx (fun e w' => (∃ v, e = .returned v) ∧ Bd B bb (acc ++ 102 :: (rs ++ hs)) w' ∧ Kb B bb wx w') from fun wx hx => by
      have h := writeS (s := ⟨#[102]⟩ ++ ⟨rs.toArray⟩ ++ ⟨hs.toArray⟩) ((HB2.out.calm HB3.out).calm hx) (by rw [Lib.size_eq]; simp only [ByteArray.data_append, Array.toList_append, List.length_append]; show _ + (1 + rs.length + hs.length) ≤ big; omega)
      refine h.mono ?_
      rintro e w' ⟨rfl, h1, h2⟩
      refine ⟨⟨_, rfl⟩, ?_, h2⟩
      simpa only [ByteArray.data_append, Array.toList_append, List.append_assoc, List.cons_append, List.nil_append] using h1)
    have hng3 : ¬ 9223372036854775807 < 1 + rs.length := by omega
    have hng4 : ¬ 9223372036854775807 < 1 + rs.length + hs.length := by omega
    clear hrl hrr hrn
    go_region_held3 (fun wx : World => wx.cell? ⟨pb, 0, none⟩ = some (.pointer (some ⟨bb, 0, none⟩)))
      (first | exact HKEEP3.out _ (Below.refl _ _) | exact HKEEP3.out _ (Below.refl _ _).drew | exact HKEEP3.out _ HBA.out | exact HKB.out)
      (first
        | (go_simp; go_at_call 57; refine (HRP.out _ (Below.refl _ _).drew).mono ?_; rintro eA wA ⟨rfl, hbA⟩; have HBA := Lib.hid ((Below.refl w3.heap.size w3).drew.trans hbA); clear hbA)
        | (go_simp; go_at_call 54; refine (HWS.out _ HBA.out).mono ?_; rintro eB wB ⟨⟨vB, rfl⟩, hBB, hKK⟩; have HBB := Lib.hid hBB; have HKK := Lib.hid ((Kb.calm (Kb.refl B bb w3) (HB2.out.calm HB3.out).le HBA.out).trans hKK)
           have HKB := Lib.hid ((((HP.out.below HB3.out).kb HKK.out hpb).1.cell 0 rfl))
           clear hBB hKK))
    all_goals
      go_wp2_with fail
      go_end0
      exact ⟨rfl, by rw [HONE.out]; exact HBB.out, HKW.out.trans ((Kb.calm (Kb.refl B bb w2) HB2.out.le HB3.out).trans HKK.out)⟩
  by_cases hk : k = 4
  · subst hk
    have HCQ := Lib.hid (quoteN (s := ⟨t.toArray⟩) HB2.out (by show _ + 4 * t.length + 2 ≤ big; omega))
    go_wp2_with (go_at_call 58; (with_reducible refine HCQ.out.mono ?_); rintro e3 w3 ⟨rfl, hB3, hK3⟩)
    go_end0
    exact ⟨rfl, by have hfin := hB3; exact hfin, HKW.out.trans hK3⟩
  by_cases hk : k = 5
  · subst hk
    have HC := Lib.hid (writeL 64 64 rfl HB2.out (by omega))
    go_wp2_with (first
      | (go_at_call 59; (with_reducible refine HC.out.mono ?_); rintro e3 w3 ⟨rfl, hB3, hK3⟩
         have HB3 := Lib.hid hB3
         have HK3 := Lib.hid hK3
         have cp3 := (HP.out.kb hK3 hpb).1.cell 0 rfl
         have ct3 := (HD.out.kb hK3 hdb).1.cell 3 rfl
         have HCQ := Lib.hid (quoteN (s := ⟨t.toArray⟩) hB3 (by rw [List.length_append]; show _ + 1 + 4 * t.length + 2 ≤ big; omega))
         clear hB3 hK3)
      | (go_at_call 58; (with_reducible refine HCQ.out.mono ?_); rintro e4 w4 ⟨rfl, hB4, hK4⟩))
    go_end0
    exact ⟨rfl, by have hfin := hB4; simpa [oneM, List.append_assoc] using hfin, HKW.out.trans (HK3.out.trans hK4)⟩
  by_cases hk : k = 6
  · subst hk
    cases hi1 : (i == 1)
    · have hone : oneM 6 i b t (rowP true kids) = [102, 97, 108, 115, 101] := by simp [oneM]; simpa using hi1
      rw [hone]
      have hfb : (⟨(Lib.formatBool false).toArray⟩ : ByteArray) = ⟨#[102, 97, 108, 115, 101]⟩ := by decide
      have HIN := Lib.hid (show ∀ wx, Below w2.heap.size w2 wx → Calls Tryd.prog 60 #[.bool false] wx (fun e w' => e = .returned (.string ⟨#[102, 97, 108, 115, 101]⟩) ∧ Below wx.heap.size wx w') from fun wx hx => (Tryd.strconv_FormatBool false wx).mono (by rintro e w' ⟨rfl, rfl⟩; exact ⟨by rw [hfb], Below.refl _ _⟩))
      have HWS := Lib.hid (show ∀ wx, Below w2.heap.size w2 wx → Calls Tryd.prog 54 #[.pointer (some ⟨bb, 0, none⟩), .string ⟨#[102, 97, 108, 115, 101]⟩] wx (fun e w' => e = .returned (.tuple #[.int .i64 (⟨#[102, 97, 108, 115, 101]⟩ : ByteArray).size, .nilIface]) ∧ Bd B bb (acc ++ [102, 97, 108, 115, 101]) w' ∧ Kb B bb wx w') from fun wx hx => by
        have h := writeS (s := ⟨#[102, 97, 108, 115, 101]⟩) (HB2.out.calm hx) (by rw [Lib.size_eq, show (⟨#[102, 97, 108, 115, 101]⟩ : ByteArray).data.toList = [102, 97, 108, 115, 101] from rfl]; simp only [List.length_cons, List.length_nil]; omega)
        rw [show (⟨#[102, 97, 108, 115, 101]⟩ : ByteArray).data.toList = [102, 97, 108, 115, 101] from rfl] at h
        exact h)
      go_wp2_with fail
      go_region_held3 (fun wx : World => wx.cell? ⟨pb, 0, none⟩ = some (.pointer (some ⟨bb, 0, none⟩)) ∧ wx.cell? ⟨db, 1, none⟩ = some (.int .i64 i) ∧ wx.cell? ⟨db, 3, none⟩ = some (.string ⟨t.toArray⟩))
        (first | exact HKEEP.out _ (Below.refl _ _) | exact HKEEP.out _ (Below.refl _ _).drew | exact HKEEP.out _ HBA.out | exact HKB.out)
        (first
          | (go_simp; go_at_call 60; refine (HIN.out _ (Below.refl _ _).drew).mono ?_; rintro eA wA ⟨rfl, hbA⟩; have HBA := Lib.hid ((Below.refl w2.heap.size w2).drew.trans hbA); clear hbA)
          | (go_simp; go_at_call 54; refine (HWS.out _ HBA.out).mono ?_; rintro eB wB ⟨rfl, hBB, hKK⟩; have HBB := Lib.hid hBB; have HKK := Lib.hid ((Kb.calm (Kb.refl B bb w2) HB2.out.le HBA.out).trans hKK)
             have HKB := Lib.hid (And.intro ((HP.out.kb HKK.out hpb).1.cell 0 rfl) (And.intro ((HD.out.kb HKK.out hdb).1.cell 1 rfl) ((HD.out.kb HKK.out hdb).1.cell 3 rfl)))
             clear hBB hKK))
      all_goals
        go_wp2_with fail
        go_end0
        exact ⟨rfl, by have hfin := HBB.out; exact hfin, HKW.out.trans HKK.out⟩
    · have hone : oneM 6 i b t (rowP true kids) = [116, 114, 117, 101] := by simp [oneM]; simpa using hi1
      rw [hone]
      have hfb : (⟨(Lib.formatBool true).toArray⟩ : ByteArray) = ⟨#[116, 114, 117, 101]⟩ := by decide
      have HIN := Lib.hid (show ∀ wx, Below w2.heap.size w2 wx → Calls Tryd.prog 60 #[.bool true] wx (fun e w' => e = .returned (.string ⟨#[116, 114, 117, 101]⟩) ∧ Below wx.heap.size wx w') from fun wx hx => (Tryd.strconv_FormatBool true wx).mono (by rintro e w' ⟨rfl, rfl⟩; exact ⟨by rw [hfb], Below.refl _ _⟩))
      have HWS := Lib.hid (show ∀ wx, Below w2.heap.size w2 wx → Calls Tryd.prog 54 #[.pointer (some ⟨bb, 0, none⟩), .string ⟨#[116, 114, 117, 101]⟩] wx (fun e w' => e = .returned (.tuple #[.int .i64 (⟨#[116, 114, 117, 101]⟩ : ByteArray).size, .nilIface]) ∧ Bd B bb (acc ++ [116, 114, 117, 101]) w' ∧ Kb B bb wx w') from fun wx hx => by
        have h := writeS (s := ⟨#[116, 114, 117, 101]⟩) (HB2.out.calm hx) (by rw [Lib.size_eq, show (⟨#[116, 114, 117, 101]⟩ : ByteArray).data.toList = [116, 114, 117, 101] from rfl]; simp only [List.length_cons, List.length_nil]; omega)
        rw [show (⟨#[116, 114, 117, 101]⟩ : ByteArray).data.toList = [116, 114, 117, 101] from rfl] at h
        exact h)
      go_wp2_with fail
      go_region_held3 (fun wx : World => wx.cell? ⟨pb, 0, none⟩ = some (.pointer (some ⟨bb, 0, none⟩)) ∧ wx.cell? ⟨db, 1, none⟩ = some (.int .i64 i) ∧ wx.cell? ⟨db, 3, none⟩ = some (.string ⟨t.toArray⟩))
        (first | exact HKEEP.out _ (Below.refl _ _) | exact HKEEP.out _ (Below.refl _ _).drew | exact HKEEP.out _ HBA.out | exact HKB.out)
        (first
          | (go_simp; go_at_call 60; refine (HIN.out _ (Below.refl _ _).drew).mono ?_; rintro eA wA ⟨rfl, hbA⟩; have HBA := Lib.hid ((Below.refl w2.heap.size w2).drew.trans hbA); clear hbA)
          | (go_simp; go_at_call 54; refine (HWS.out _ HBA.out).mono ?_; rintro eB wB ⟨rfl, hBB, hKK⟩; have HBB := Lib.hid hBB; have HKK := Lib.hid ((Kb.calm (Kb.refl B bb w2) HB2.out.le HBA.out).trans hKK)
             have HKB := Lib.hid (And.intro ((HP.out.kb HKK.out hpb).1.cell 0 rfl) (And.intro ((HD.out.kb HKK.out hdb).1.cell 1 rfl) ((HD.out.kb HKK.out hdb).1.cell 3 rfl)))
             clear hBB hKK))
      all_goals
        go_wp2_with fail
        go_end0
        exact ⟨rfl, by have hfin := HBB.out; exact hfin, HKW.out.trans HKK.out⟩
  by_cases hk : k = 7
  · subst hk
    have HIN := Lib.hid (show ∀ wx, Below w2.heap.size w2 wx → Calls Tryd.prog 61 #[.string ⟨t.toArray⟩] wx (fun e w' => e = .returned (.string ⟨(pairsM t).toArray⟩) ∧ Below wx.heap.size wx w') from fun wx hx => pairsN (s := ⟨t.toArray⟩) (by show 2 * t.length + 2 ≤ big; omega))
    have HWS := Lib.hid (show ∀ wx, Below w2.heap.size w2 wx → Calls Tryd.prog 54 #[.pointer (some ⟨bb, 0, none⟩), .string (⟨#[37]⟩ ++ ⟨(pairsM t).toArray⟩)] wx (fun e w' => e = .returned (.tuple #[.int .i64 ((⟨#[37]⟩ ++ ⟨(pairsM t).toArray⟩) : ByteArray).size, .nilIface]) ∧ Bd B bb (acc ++ (37 :: pairsM t)) w' ∧ Kb B bb wx w') from fun wx hx => by
      have h := writeS (s := (⟨#[37]⟩ ++ ⟨(pairsM t).toArray⟩)) (HB2.out.calm hx) (by rw [Lib.size_eq, show ((⟨#[37]⟩ ++ ⟨(pairsM t).toArray⟩) : ByteArray).data.toList = (37 :: pairsM t) from by rw [ByteArray.data_append, Array.toList_append]; rfl]; have hpp := pairs_len t; simp only [List.length_cons]; omega)
      rw [show ((⟨#[37]⟩ ++ ⟨(pairsM t).toArray⟩) : ByteArray).data.toList = (37 :: pairsM t) from by rw [ByteArray.data_append, Array.toList_append]; rfl] at h
      exact h)
    go_wp2_with fail
    go_region_held3 (fun wx : World => wx.cell? ⟨pb, 0, none⟩ = some (.pointer (some ⟨bb, 0, none⟩)) ∧ wx.cell? ⟨db, 1, none⟩ = some (.int .i64 i) ∧ wx.cell? ⟨db, 3, none⟩ = some (.string ⟨t.toArray⟩))
      (first | exact HKEEP.out _ (Below.refl _ _) | exact HKEEP.out _ (Below.refl _ _).drew | exact HKEEP.out _ HBA.out | exact HKB.out)
      (first
        | (go_simp; go_at_call 61; refine (HIN.out _ (Below.refl _ _).drew).mono ?_; rintro eA wA ⟨rfl, hbA⟩; have HBA := Lib.hid ((Below.refl w2.heap.size w2).drew.trans hbA); clear hbA)
        | (go_simp; go_at_call 54; refine (HWS.out _ HBA.out).mono ?_; rintro eB wB ⟨rfl, hBB, hKK⟩; have HBB := Lib.hid hBB; have HKK := Lib.hid ((Kb.calm (Kb.refl B bb w2) HB2.out.le HBA.out).trans hKK)
           have HKB := Lib.hid (And.intro ((HP.out.kb HKK.out hpb).1.cell 0 rfl) (And.intro ((HD.out.kb HKK.out hdb).1.cell 1 rfl) ((HD.out.kb HKK.out hdb).1.cell 3 rfl)))
           clear hBB hKK))
    all_goals
      go_wp2_with fail
      go_end0
      exact ⟨rfl, by have hfin := HBB.out; exact hfin, HKW.out.trans HKK.out⟩
  by_cases hk : k = 8
  · subst hk
    have HC := Lib.hid (putRow (o := ⟨#[91]⟩) (e := ⟨#[93]⟩) hall (HF.out.same (fun x hx hlt => HKW.out.below.block x (hS x hx)) (fun x hx _ => hx)) hS HB2.out hBb (Nat.lt_of_lt_of_le hbw HKW.out.below.size) HL2.out h7 HP.out HD.out hpb hdb hpl (by show _ + 1 + _ + 1 ≤ big; omega))
    go_wp2_with (go_at_call 53; (with_reducible refine HC.out.mono ?_); rintro e3 w3 ⟨rfl, hB3, hK3⟩)
    go_end0
    exact ⟨rfl, by have hfin := hB3; simpa [oneM, List.append_assoc] using hfin, HKW.out.trans hK3⟩
  by_cases hk : k = 9
  · subst hk
    have HC := Lib.hid (putRow (o := ⟨#[40]⟩) (e := ⟨#[41]⟩) hall (HF.out.same (fun x hx hlt => HKW.out.below.block x (hS x hx)) (fun x hx _ => hx)) hS HB2.out hBb (Nat.lt_of_lt_of_le hbw HKW.out.below.size) HL2.out h7 HP.out HD.out hpb hdb hpl (by show _ + 1 + _ + 1 ≤ big; omega))
    go_wp2_with (go_at_call 53; (with_reducible refine HC.out.mono ?_); rintro e3 w3 ⟨rfl, hB3, hK3⟩)
    go_end0
    exact ⟨rfl, by have hfin := hB3; simpa [oneM, List.append_assoc] using hfin, HKW.out.trans hK3⟩
  by_cases hk : k = 10
  · subst hk
    have HIN := Lib.hid (show ∀ wx, Below w2.heap.size w2 wx → Calls Tryd.prog 55 #[.int .i64 i] wx (fun e w' => e = .returned (.string ⟨(dec i).toArray⟩) ∧ Below wx.heap.size wx w') from fun wx hx => decimalN HR.out.1 HR.out.2 (HL2.out.below hx (Nat.le_trans h7 HB2.out.le)))
    have HWS := Lib.hid (show ∀ wx, Below w2.heap.size w2 wx → Calls Tryd.prog 54 #[.pointer (some ⟨bb, 0, none⟩), .string (⟨#[33]⟩ ++ ⟨(dec i).toArray⟩)] wx (fun e w' => e = .returned (.tuple #[.int .i64 ((⟨#[33]⟩ ++ ⟨(dec i).toArray⟩) : ByteArray).size, .nilIface]) ∧ Bd B bb (acc ++ (33 :: dec i)) w' ∧ Kb B bb wx w') from fun wx hx => by
      have h := writeS (s := (⟨#[33]⟩ ++ ⟨(dec i).toArray⟩)) (HB2.out.calm hx) (by rw [Lib.size_eq, show ((⟨#[33]⟩ ++ ⟨(dec i).toArray⟩) : ByteArray).data.toList = (33 :: dec i) from by rw [ByteArray.data_append, Array.toList_append]; rfl]; simp only [List.length_cons]; omega)
      rw [show ((⟨#[33]⟩ ++ ⟨(dec i).toArray⟩) : ByteArray).data.toList = (33 :: dec i) from by rw [ByteArray.data_append, Array.toList_append]; rfl] at h
      exact h)
    go_wp2_with fail
    go_region_held3 (fun wx : World => wx.cell? ⟨pb, 0, none⟩ = some (.pointer (some ⟨bb, 0, none⟩)) ∧ wx.cell? ⟨db, 1, none⟩ = some (.int .i64 i) ∧ wx.cell? ⟨db, 3, none⟩ = some (.string ⟨t.toArray⟩))
      (first | exact HKEEP.out _ (Below.refl _ _) | exact HKEEP.out _ (Below.refl _ _).drew | exact HKEEP.out _ HBA.out | exact HKB.out)
      (first
        | (go_simp; go_at_call 55; refine (HIN.out _ (Below.refl _ _).drew).mono ?_; rintro eA wA ⟨rfl, hbA⟩; have HBA := Lib.hid ((Below.refl w2.heap.size w2).drew.trans hbA); clear hbA)
        | (go_simp; go_at_call 54; refine (HWS.out _ HBA.out).mono ?_; rintro eB wB ⟨rfl, hBB, hKK⟩; have HBB := Lib.hid hBB; have HKK := Lib.hid ((Kb.calm (Kb.refl B bb w2) HB2.out.le HBA.out).trans hKK)
           have HKB := Lib.hid (And.intro ((HP.out.kb HKK.out hpb).1.cell 0 rfl) (And.intro ((HD.out.kb HKK.out hdb).1.cell 1 rfl) ((HD.out.kb HKK.out hdb).1.cell 3 rfl)))
           clear hBB hKK))
    all_goals
      have HCQ := Lib.hid (quoteN (s := ⟨t.toArray⟩) HBB.out (by rw [Lib.size_eq]; simp only [List.length_cons, List.length_append]; show _ + 4 * t.length + 2 ≤ big; omega))
      have cpB := HKB.out.1
      have ctB := HKB.out.2.2
      go_wp2_with (go_at_call 58; (with_reducible refine HCQ.out.mono ?_); rintro e3 w3 ⟨rfl, hB3, hK3⟩)
      go_end0
      exact ⟨rfl, by have hfin := hB3; simpa [oneM, List.append_assoc] using hfin, HKW.out.trans (HKK.out.trans hK3)⟩
  by_cases hk : k = 11
  · subst hk
    have HIN := Lib.hid (decimalN HR.out.1 HR.out.2 HL2.out)
    go_wp2_with (first
      | (go_at_call 55; (with_reducible refine HIN.out.mono ?_); rintro e3 w3 ⟨rfl, hb3⟩
         have HB3 := Lib.hid hb3
         have HC := Lib.hid (putRow (o := ⟨#[38]⟩ ++ ⟨(dec i).toArray⟩ ++ ⟨#[40]⟩) (e := ⟨#[41]⟩) hall (HF.out.same (fun x hx hlt => ((HKW.out.calm hBw hb3).below.block x (hS x hx))) (fun x hx _ => hx)) hS (HB2.out.calm hb3) hBb (Nat.lt_of_lt_of_le hbw (Nat.le_trans HKW.out.below.size hb3.size)) (HL2.out.below hb3 (Nat.le_trans h7 HB2.out.le)) h7 (HP.out.below hb3) (HD.out.below hb3) hpb hdb hpl (by rw [ByteArray.size_append, ByteArray.size_append]; have := dec_len i; show _ + (1 + (dec i).length + 1) + _ + 1 ≤ big; omega))
         clear hb3)
      | (go_at_call 53; (with_reducible refine HC.out.mono ?_); rintro e4 w4 ⟨rfl, hB4, hK4⟩))
    go_end0
    exact ⟨rfl, by have hfin := hB4; rw [ByteArray.data_append, ByteArray.data_append] at hfin; simpa [oneM, List.append_assoc] using hfin, HKW.out.trans ((Kb.calm (Kb.refl B bb w2) HB2.out.le HB3.out).trans hK4)⟩
  by_cases hk : k = 12
  · subst hk
    have HC := Lib.hid (writeS (s := ⟨#[38, 110, 105, 108]⟩) HB2.out (by show _ + 4 ≤ big; omega))
    go_wp2_with (go_at_call 54; (with_reducible refine HC.out.mono ?_); rintro e3 w3 ⟨rfl, hB3, hK3⟩)
    go_end0
    exact ⟨rfl, by have hfin := hB3; exact hfin, HKW.out.trans hK3⟩
  by_cases hk : k = 13
  · subst hk
    have HC := Lib.hid (writeS (s := ⟨#[123, 125]⟩) HB2.out (by show _ + 2 ≤ big; omega))
    go_wp2_with (go_at_call 54; (with_reducible refine HC.out.mono ?_); rintro e3 w3 ⟨rfl, hB3, hK3⟩)
    go_end0
    exact ⟨rfl, by have hfin := hB3; exact hfin, HKW.out.trans hK3⟩
  have h0 : (k == 0) = false := by simp; omega
  have h1 : (k == 1) = false := by simp; omega
  have h2 : (k == 2) = false := by simp; omega
  have h3 : (k == 3) = false := by simp; omega
  have h4 : (k == 4) = false := by simp; omega
  have h5 : (k == 5) = false := by simp; omega
  have h6 : (k == 6) = false := by simp; omega
  have h7 : (k == 7) = false := by simp; omega
  have h8 : (k == 8) = false := by simp; omega
  have h9 : (k == 9) = false := by simp; omega
  have h10 : (k == 10) = false := by simp; omega
  have h11 : (k == 11) = false := by simp; omega
  have h12 : (k == 12) = false := by simp; omega
  have h13 : (k == 13) = false := by simp; omega
  have hone : oneM k i b t (rowP true kids) = [] := by
    unfold oneM
    repeat (rw [if_neg (by omega)])
  rw [hone, List.append_nil]
  go_wp2_with fail
  go_end0
  exact ⟨rfl, HB2.out, HKW.out⟩

theorem putAll : ∀ f : Fo, f.All PutOK
  | .nil => trivial
  | .cons _ _ _ _ kids rest => ⟨putN (putAll kids), putAll rest⟩
theorem putG (kids : Fo) : PutOK kids := putN (putAll kids)
end Go.Proofs.YtofpdhkdnbnobaaDoor
