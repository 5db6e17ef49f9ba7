/-
  The document's Copy (walk). Not a statement of the seat.
-/
import Derived.Test.YtbldidiibkcelaaGreatDoorTHeldL
import Derived.Test.YtbldidiibkcelaaGreatDoorTMaps
namespace Go.Proofs.YtbldidiibkcelaaGreatDoor
open Go.RowKit

theorem Src.oneRow {P : Program} {w : World} {size : Nat} {tx e' : TypeId} (hk : P.underlying tx = some (.slice e')) (news : List Value) (A : Array Value) (e : TypeId) {g : Nat} (hg : g = w.heap.size) (hA : A = news.toArray) (hl : news.length = size) (h1 : ∀ u ∈ news, u.oneCell' = true) : Src P size tx (.slice (some ⟨g, 0, none⟩) 1 1) 1 news (w.alloc (.cells A e)) := by
  subst hg
  subst hA
  refine Src.ofSlice _ hk _ 1 1 news (by omega) (fun j u hj => ?_) h1
  rw [Addr.add_lit]
  have hjl := (List.getElem?_eq_some_iff.1 hj).1
  simp [hj]
def st5 (w : World) (b : Nat) (v0 v1 v2 v3 v4 : Value) : World :=
  ((((w.setCell ⟨b, 0, none⟩ v0).setCell ⟨b, 1, none⟩ v1).setCell ⟨b, 2, none⟩ v2).setCell ⟨b, 3, none⟩ v3).setCell ⟨b, 4, none⟩ v4
theorem st5_blk {w : World} {b : Nat} {u0 u1 u2 u3 u4 : Value} (h : Blk w b [u0, u1, u2, u3, u4]) (v0 v1 v2 v3 v4 : Value) : Blk (st5 w b v0 v1 v2 v3 v4) b [v0, v1, v2, v3, v4] := by
  have := ((((h.set (j := 0) v0).set (j := 1) v1).set (j := 2) v2).set (j := 3) v3).set (j := 4) v4
  simpa [st5] using this
theorem st5_kept {w : World} {b : Nat} (v0 v1 v2 v3 v4 : Value) : Kept (N1 b) w (st5 w b v0 v1 v2 v3 v4) :=
  (((((Kept.refl (N1 b) w).put (p := ⟨b, 0, none⟩) v0 (fun _ => rfl)).put (p := ⟨b, 1, none⟩) v1 (fun _ => rfl)).put (p := ⟨b, 2, none⟩) v2 (fun _ => rfl)).put (p := ⟨b, 3, none⟩) v3 (fun _ => rfl)).put (p := ⟨b, 4, none⟩) v4 (fun _ => rfl)
/-- what a copy comes to -/
def CPP (k i b : Int) (t : Bs) (kids : Fo) (w : World) (e : Ending) (w' : World) : Prop :=
  ∃ l n c, e = .returned (.agg #[.int .i64 k, .int .i64 i, .int .u64 b, .string ⟨t.toArray⟩, .slice l n c]) ∧ FoAt (fun x => w.heap.size ≤ x) w' kids l n c ∧ Below w.heap.size w w'
def CPOK (kids : Fo) : Prop := ∀ (k i b : Int) (t : Bs) (l : Option Addr) (n c : Nat) (S : Nat → Prop) (w : World), FoAt S w kids l n c → (∀ x, S x → x < w.heap.size) → sizeF kids ≤ 100000 →
  Calls Tryz.prog 60 #[.agg #[.int .i64 k, .int .i64 i, .int .u64 b, .string ⟨t.toArray⟩, .slice l n c]] w (CPP k i b t kids w)
/-- a copied row that has grown by one -/
theorem cp_next {B n cap : Nat} {wr wv w4 : World} {l a4 : Option Addr} {cs : List Value} {acc : Fo} {k i b : Int} {t : Bs} {kids : Fo} {lv : Option Addr} {nv cv : Nat} {ob : Obj}
    (hRow : Row B wr 5 l n cap cs) (hAt : At (fun x => B ≤ x ∧ blockOf l ≠ some x) wr acc cs) (hB : B ≤ wr.heap.size) (hF : FoAt (fun x => wr.heap.size ≤ x) wv kids lv nv cv) (hKv : Below wr.heap.size wr wv)
    (hgr : (wv.alloc ob).grownBy w4 (blockOf l)) (hbk : blockOf a4 = blockOf l ∨ blockOf a4 = some (wv.alloc ob).heap.size) :
    At (fun x => B ≤ x ∧ blockOf a4 ≠ some x) w4 (acc.app (.cons k i b t kids .nil)) (cs ++ V5 k i b ⟨t.toArray⟩ lv nv cv) := by
  have hl : ∀ x, blockOf l = some x → B ≤ x ∧ x < wr.heap.size := fun x e => hRow.lt x e
  have hs2 := hKv.size
  have hsz : (wv.alloc ob).heap.size = wv.heap.size + 1 := by simp
  have hall : Below wv.heap.size wv (wv.alloc ob) := (Below.refl _ _).alloc (Nat.le_refl _) _
  have h5 : ∀ x, x < wv.heap.size → blockOf l ≠ some x → w4.heap[x]? = wv.heap[x]? := fun x hx hne => by
    rw [hgr.block x (by omega) (fun e => hne e.symm), hall.block x hx]
  have hS : ∀ x, x < wv.heap.size → blockOf l ≠ some x → blockOf a4 ≠ some x := fun x hx hne e => by
    rcases hbk with h | h
    · exact hne (h ▸ e)
    · rw [h] at e; cases e; omega
  refine At.app acc ?_ ?_
  · refine At.same acc hAt (fun x hx hlt => ?_) (fun x hx hlt => ⟨hx.1, hS x (by omega) hx.2⟩)
    rw [h5 x (by omega) hx.2]
    exact hKv.block x hlt
  · obtain ⟨ks, ⟨h1, h2⟩, h3⟩ := hF
    have hsame : ∀ x, wr.heap.size ≤ x → x < wv.heap.size → w4.heap[x]? = wv.heap[x]? := fun x h hx => h5 x hx (fun e => by have := (hl x e).2; omega)
    refine ⟨lv, nv, cv, ks, [], rfl, ⟨h1.same0 (fun x hn hx hlt => hsame x (h2 x hn hx) hlt), fun x hn hx => ?_⟩, At.same kids h3 hsame (fun x hx hlt => ⟨by omega, hS x hlt (fun e => by have := (hl x e).2; omega)⟩), rfl⟩
    have h4 := h2 x hn hx
    have hlt : x < wv.heap.size := by
      rcases h1.2.2.2 with ⟨h, _⟩ | ⟨b0, off, rfl, hlt, _⟩
      · omega
      · cases hx; exact hlt
    exact ⟨by omega, hS x hlt (fun e => by have := (hl x e).2; omega)⟩
/-- the three blocks that Copy lays first -/
def cpw (w : World) (k i b : Int) (t : Bs) (l : Option Addr) (n c : Nat) : World :=
  ((w.alloc (.cells #[.int .i64 k, .int .i64 i, .int .u64 b, .string ⟨t.toArray⟩, .slice l n c] 25)).alloc (.cells #[.int .i64 0, .int .i64 0, .int .u64 0, .string ⟨#[]⟩, .slice none 0 0] 25)).alloc (.cells #[.int .i64 k, .int .i64 i, .int .u64 b, .string ⟨t.toArray⟩, .slice none 0 0] 25)
theorem cpw_facts (w : World) (k i b : Int) (t : Bs) (l : Option Addr) (n c : Nat) : (Blk (cpw w k i b t l n c) w.heap.size (V5 k i b ⟨t.toArray⟩ l n c) ∧ Blk (cpw w k i b t l n c) (w.heap.size + 1) (V5 0 0 0 ⟨#[]⟩ none 0 0) ∧ Blk (cpw w k i b t l n c) (w.heap.size + 1 + 1) (V5 k i b ⟨t.toArray⟩ none 0 0)) ∧
    Below w.heap.size w (cpw w k i b t l n c) ∧ (cpw w k i b t l n c).heap.size = w.heap.size + 3 := by
  refine ⟨⟨((Blk.new w _ _).alloc _).alloc _, ?_, ?_⟩, (((Below.refl _ w).alloc (Nat.le_refl _) _).alloc (by simp) _).alloc (by simp; omega) _, by simp [cpw]⟩
  · have := (Blk.new (w.alloc (.cells #[.int .i64 k, .int .i64 i, .int .u64 b, .string ⟨t.toArray⟩, .slice l n c] 25)) #[.int .i64 0, .int .i64 0, .int .u64 0, .string ⟨#[]⟩, .slice none 0 0] 25).alloc (.cells #[.int .i64 k, .int .i64 i, .int .u64 b, .string ⟨t.toArray⟩, .slice none 0 0] 25)
    simpa [cpw, V5] using this
  · have := Blk.new ((w.alloc (.cells #[.int .i64 k, .int .i64 i, .int .u64 b, .string ⟨t.toArray⟩, .slice l n c] 25)).alloc (.cells #[.int .i64 0, .int .i64 0, .int .u64 0, .string ⟨#[]⟩, .slice none 0 0] 25)) #[.int .i64 k, .int .i64 i, .int .u64 b, .string ⟨t.toArray⟩, .slice none 0 0] 25
    simpa [cpw, V5] using this
/-- the result is read out of its box -/
theorem cp_res {tmps : Array Value} {w : World} {db : Nat} {v0 v1 v2 v3 v4 : Value} (ht : tmps.getD 2 undef = .pointer (some ⟨db, 0, none⟩)) (h : Blk w db [v0, v1, v2, v3, v4]) :
    (results Tryz.f60 tmps).run Tryz.prog w = .ok (.agg #[v0, v1, v2, v3, v4]) w := by
  have c0 := h.cell 0 rfl
  have c1 := h.cell 1 rfl
  have c2 := h.cell 2 rfl
  have c3 := h.cell 3 rfl
  have c4 := h.cell 4 rfl
  have ht' : tmps[2]?.getD undef = .pointer (some ⟨db, 0, none⟩) := by simpa using ht
  simp [results, Tryz.results60, go_sem, ht', c0, c1, c2, c3, c4]
theorem cp_none {w w3 wr : World} {kids : Fo} {k i b : Int} {t : Bs} {l : Option Addr} {n c z q : Nat} {cs : List Value} {tmps : Array Value} (ht : tmps.getD 2 undef = .pointer (some ⟨z, 0, none⟩)) (hz : z = w.heap.size + 1) (hq : q = w.heap.size + 2)
    (h3 : w3.heap.size = w.heap.size + 3) (hBW : Below w.heap.size w w3) (hZ : Blk wr z (V5 0 0 0 ⟨#[]⟩ none 0 0)) (hR : Row w3.heap.size wr 5 l n c cs ∧ At (fun x => w3.heap.size ≤ x ∧ blockOf l ≠ some x) wr kids cs) (hK : Kept (N1 q) w3 wr) (hsz : w3.heap.size ≤ wr.heap.size) :
    bodyPost Tryz.prog Tryz.f60 (CPP k i b t kids w) Exit.ret { tmps := tmps, defers := [] } (st5 wr z (.int .i64 k) (.int .i64 i) (.int .u64 b) (.string ⟨t.toArray⟩) (.slice l n c)) := by
  refine bodyPost_ret (cp_res ht (st5_blk hZ _ _ _ _ _)) rfl ?_
  have h1 := st5_kept (w := wr) (b := z) (.int .i64 k) (.int .i64 i) (.int .u64 b) (.string ⟨t.toArray⟩) (.slice l n c)
  refine ⟨l, n, c, rfl, ⟨cs, ⟨(hR.1.keep h1 (fun x hx e => ?_)).rd, fun x _ hx => ?_⟩, At.same _ hR.2 (fun x hx hlt => h1.block x hlt (fun e => ?_)) (fun x hx _ => ?_)⟩, ?_⟩
  · have := (hR.1.lt x hx).1; unfold N1 at e; omega
  · have := (hR.1.lt x hx).1; omega
  · have := hx.1; unfold N1 at e; omega
  · have := hx.1; omega
  · exact hBW.trans ((hK.below (B := w.heap.size) (by omega) (fun x hx e => by unfold N1 at e; omega)).trans (h1.below (by omega) (fun x hx e => by unfold N1 at e; omega)))
theorem kept_grow {N : Nat → Prop} {w3 wr wv w4 : World} {ob : Obj} {l : Option Addr} (hK : Kept N w3 wr) (hB : Below wr.heap.size wr wv) (hG : (wv.alloc ob).grownBy w4 (blockOf l)) (hl : ∀ x, blockOf l = some x → w3.heap.size ≤ x) : Kept N w3 w4 :=
  ((hK.calm hB).alloc ob).grown hG (fun b h hb => absurd (hl b h) (by omega))
/-- between two rounds -/
def CpRel (kids : Fo) (k i b : Int) (t : Bs) (w3 : World) (q : Nat) (t10 : Value) (wr : World) : Prop :=
  ∃ (dn rest : Fo) (l : Option Addr) (c : Nat) (cs : List Value), t10 = .int .i64 (dn.len : Nat) ∧ kids = dn.app rest ∧ (Row w3.heap.size wr 5 l dn.len c cs ∧ At (fun x => w3.heap.size ≤ x ∧ blockOf l ≠ some x) wr dn cs) ∧ Blk wr q (V5 k i b ⟨t.toArray⟩ l dn.len c) ∧ Kept (N1 q) w3 wr
set_option maxHeartbeats 8000000 in
set_option maxRecDepth 100000 in
theorem copyN {kids : Fo} (hall : kids.All CPOK) : CPOK kids := by
  intro k i b t l n c S w hF hS hsz
  obtain ⟨i0, hi, hy0, hy1, hy2⟩ := info_parts datumInfo
  obtain ⟨⟨hP, hZ, hQ⟩, hBW, hsz3⟩ := cpw_facts w k i b t l n c
  have hlen := hF.len
  have hls := len_size kids
  have hn9 : n ≤ 100000 := by omega
  have HF := Lib.hid (hF.same (w' := cpw w k i b t l n c) (fun x hx hlt => hBW.block x hlt) (fun _ hx _ => hx))
  have HS := Lib.hid hS
  have HALL := Lib.hid hall
  have HSZ := Lib.hid hsz
  have HLEN := Lib.hid hlen
  have H3 := Lib.hid hsz3
  have HBW := Lib.hid hBW
  clear hF hS hall hsz hlen hls hBW
  go_enter Tryz.func60, Tryz.ntmps60
  go_upto_region 3 with (fail)
  change Code.wp _ _ _ _ (cpw w k i b t l n c)
  generalize cpw w k i b t l n c = w3 at *
  obtain ⟨q, hq⟩ : ∃ q, q = w.heap.size + 1 + 1 := ⟨_, rfl⟩
  obtain ⟨z, hz⟩ : ∃ z, z = w.heap.size + 1 := ⟨_, rfl⟩
  obtain ⟨p, hp⟩ : ∃ p, p = w.heap.size := ⟨_, rfl⟩
  rw [← hq] at hQ
  rw [← hz] at hZ
  rw [← hp] at hP
  rw [← hq, ← hz, ← hp]
  have HPQ := Lib.hid (And.intro hp (And.intro hz hq))
  have x4 := hP.cell 4 rfl
  have HP3 := Lib.hid hP
  have HZ3 := Lib.hid hZ
  have H0 := Lib.hid (show CpRel kids k i b t w3 q (.int .i64 0) w3 from ⟨.nil, kids, none, 0, [], rfl, rfl, ⟨Row.nil _ _ _, rfl⟩, hQ, Kept.refl _ _⟩)
  clear hP hZ hQ hp hz hq hsz3
  go_wp2_with fail
  go_loopw [10] (fun t10 wr => CpRel kids k i b t w3 q t10 wr) (fun t10 _ => n - (intOf t10).toNat)
  case atStart => exact H0.out
  case round =>
    obtain ⟨dn, rest, l1, c1, cs, rfl, hk, hR, hQr, hK⟩ := hrel
    have hlen := HLEN.out
    rw [hk, Fo.len_app] at hlen
    have HR := Lib.hid hR
    have HQR := Lib.hid hQr
    have HK := Lib.hid hK
    have hPr := HP3.out.keep hK (by have := HPQ.out; unfold N1; omega)
    have y4 := hPr.cell 4 rfl
    have q4 := hQr.cell 4 rfl
    have HPR := Lib.hid hPr
    have HZR := Lib.hid (HZ3.out.keep hK (by have := HPQ.out; unfold N1; omega))
    have HB3 := Lib.hid hK.size
    clear hR hPr H0 x4
    cases rest with
    | nil =>
      have hj : ¬ (dn.len : Int) < (n : Int) := by have : Fo.len .nil = 0 := rfl; omega
      have hke : kids = dn := by rw [hk, Fo.app_nil]
      have HKE := Lib.hid hke
      have q0 := hQr.cell 0 rfl
      have q1 := hQr.cell 1 rfl
      have q2 := hQr.cell 2 rfl
      have q3 := hQr.cell 3 rfl
      have z0 := HZR.out.cell 0 rfl
      have z1 := HZR.out.cell 1 rfl
      have z2 := HZR.out.cell 2 rfl
      have z3 := HZR.out.cell 3 rfl
      have z4 := HZR.out.cell 4 rfl
      have f0 := HZR.out.free 0 (by simp [V5])
      have f1 := HZR.out.free 1 (by simp [V5])
      have f2 := HZR.out.free 2 (by simp [V5])
      have f3 := HZR.out.free 3 (by simp [V5])
      have f4 := HZR.out.free 4 (by simp [V5])
      clear hk hlen hke hQr hK
      go_wp2_with fail
      rw [HKE.out]
      exact cp_none rfl HPQ.out.2.1 (by have := HPQ.out; omega) H3.out HBW.out HZR.out HR.out HK.out HB3.out
    | cons k2 i2 b2 t2 ks r2 =>
      have hlr : (Fo.cons k2 i2 b2 t2 ks r2).len = r2.len + 1 := rfl
      have hF := HF.out.keepS hK (fun x hx e => by have := HS.out x hx; have := HPQ.out; unfold N1 at e; omega)
      rw [hk] at hF
      obtain ⟨bb, off, a2, n2, cp2, rfl, hkF, e0, e1, e2, e3, e4, hnb, hjn⟩ := hF.elem
      have hj : (dn.len : Int) < (n : Int) := by omega
      have hOK : CPOK ks := by
        have hal := HALL.out
        rw [hk] at hal
        exact (Fo.All.split dn hal).1
      have hsz := size_app dn (.cons k2 i2 b2 t2 ks r2)
      rw [← hk] at hsz
      have hsz9 := HSZ.out
      simp only [sizeF] at hsz
      have HC := Lib.hid (fun (wx : World) (hx : Below wr.heap.size wr wx) => hOK k2 i2 b2 t2 a2 n2 cp2 S wx (hkF.same (w' := wx) (fun x _ hlt => hx.block x hlt) (fun _ hx2 _ => hx2)) (fun x hx2 => Nat.lt_of_lt_of_le (HS.out x hx2) (by have := H3.out; have := HB3.out; have := hx.size; omega)) (by omega))
      have HKK := Lib.hid hk
      have hdl : dn.len ≤ 100000 := by omega
      generalize hjj : dn.len = j at *
      have HJJ := Lib.hid hjj
      have HJ := Lib.hid hjn
      have HKEEP := Lib.hid (show ∀ wx, Below wr.heap.size wr wx → wx.cell? ⟨p, 4, none⟩ = some (.slice (some ⟨bb, off, none⟩) n c) ∧ wx.cell? ⟨q, 4, none⟩ = some (.slice l1 j c1) ∧ (wx.cell? ⟨bb, off + j * 5, none⟩ = some (.int .i64 k2) ∧ wx.cell? ⟨bb, off + j * 5 + 1, none⟩ = some (.int .i64 i2) ∧ wx.cell? ⟨bb, off + j * 5 + 2, none⟩ = some (.int .u64 b2) ∧ wx.cell? ⟨bb, off + j * 5 + 3, none⟩ = some (.string ⟨t2.toArray⟩) ∧ wx.cell? ⟨bb, off + j * 5 + 4, none⟩ = some (.slice a2 n2 cp2)) from fun wx hx => ⟨cellAt hx y4, cellAt hx q4, cellAt hx e0, cellAt hx e1, cellAt hx e2, cellAt hx e3, cellAt hx e4⟩)
      clear hkF hOK hk hlen hF hlr hsz hsz9 hjj hQr hK
      go_wp2_with fail
      refine wp_region_L (S := fun wx : World => wx.cell? ⟨p, 4, none⟩ = some (.slice (some ⟨bb, off, none⟩) n c) ∧ wx.cell? ⟨q, 4, none⟩ = some (.slice l1 j c1) ∧ (wx.cell? ⟨bb, off + j * 5, none⟩ = some (.int .i64 k2) ∧ wx.cell? ⟨bb, off + j * 5 + 1, none⟩ = some (.int .i64 i2) ∧ wx.cell? ⟨bb, off + j * 5 + 2, none⟩ = some (.int .u64 b2) ∧ wx.cell? ⟨bb, off + j * 5 + 3, none⟩ = some (.string ⟨t2.toArray⟩) ∧ wx.cell? ⟨bb, off + j * 5 + 4, none⟩ = some (.slice a2 n2 cp2))) (by kernel_rfl) ?_ (fun hHeld => ?_)
      · exact HKEEP.out _ (Below.refl _ _).drew
      refine takeL (i := 0) 1 (v := ?va0) rfl (by kernel_rfl) (by kernel_rfl) (by kernel_rfl) (by kernel_rfl) (by kernel_rfl) (fun _ _ _ h => h) (Or.inl ⟨by rfl, ?hy0⟩) (by assumption) ?rest0
      case hy0 => (intro w9 hSw; (try dsimp only at hSw); go_simp; try with_reducible rfl)
      try simp only [Act.put, List.setIfInBounds_toArray, List.set_cons_zero, List.set_cons_succ]
      refine takeL (i := 1) 9 (v := ?va1) rfl (by kernel_rfl) (by kernel_rfl) (by kernel_rfl) (by kernel_rfl) (by kernel_rfl) (fun _ _ _ h => h) (Or.inl ⟨by rfl, ?hy1⟩) (by assumption) ?rest1
      case hy1 => (intro w9 hSw; (try dsimp only at hSw); go_simp; try with_reducible rfl)
      try simp only [Act.put, List.setIfInBounds_toArray, List.set_cons_zero, List.set_cons_succ]
      refine takeL (i := 2) 3 (v := ?va2) rfl (by kernel_rfl) (by kernel_rfl) (by kernel_rfl) (by kernel_rfl) (by kernel_rfl) (fun _ _ _ h => h) (Or.inl ⟨by rfl, ?hy2⟩) (by assumption) ?rest2
      case hy2 => (intro w9 hSw; (try dsimp only at hSw); go_simp; try with_reducible rfl)
      try simp only [Act.put, List.setIfInBounds_toArray, List.set_cons_zero, List.set_cons_succ]
      refine takeL (i := 3) 5 (v := ?va3) rfl (by kernel_rfl) (by kernel_rfl) (by kernel_rfl) (by kernel_rfl) (by kernel_rfl) (fun _ _ _ h => h) (Or.inl ⟨by rfl, ?hy3⟩) (by assumption) ?rest3
      case hy3 => (intro w9 hSw; (try dsimp only at hSw); go_simp; try with_reducible rfl)
      try simp only [Act.put, List.setIfInBounds_toArray, List.set_cons_zero, List.set_cons_succ]
      refine takeL (i := 4) 5 (v := ?va4) rfl (by kernel_rfl) (by kernel_rfl) (by kernel_rfl) (by kernel_rfl) (by kernel_rfl) (fun _ _ _ h => h) (Or.inl ⟨by rfl, ?hy4⟩) (by assumption) ?rest4
      case hy4 => (intro w9 hSw; (try dsimp only at hSw); go_simp; try with_reducible rfl)
      try simp only [Act.put, List.setIfInBounds_toArray, List.set_cons_zero, List.set_cons_succ]
      refine takeL (i := 5) 6 (v := ?va5) rfl (by kernel_rfl) (by kernel_rfl) (by kernel_rfl) (by kernel_rfl) (by kernel_rfl) (fun _ _ _ h => h) (Or.inl ⟨by rfl, ?hy5⟩) (by assumption) ?rest5
      case hy5 => (intro w9 hSw; (try dsimp only at hSw); go_simp; try with_reducible rfl)
      try simp only [Act.put, List.setIfInBounds_toArray, List.set_cons_zero, List.set_cons_succ]
      refine takeL (i := 6) 7 (v := ?va6) rfl (by kernel_rfl) (by kernel_rfl) (by kernel_rfl) (by kernel_rfl) (by kernel_rfl) (fun _ _ _ h => h) (Or.inl ⟨by rfl, ?hy6⟩) (by assumption) ?rest6
      case hy6 => (intro w9 hSw; (try dsimp only at hSw); go_simp; try with_reducible rfl)
      try simp only [Act.put, List.setIfInBounds_toArray, List.set_cons_zero, List.set_cons_succ]
      refine oneL (i := 7) (by kernel_rfl) rfl (fun K hK => ?_)
      (go_simp; go_at_call 60; (with_reducible refine (HC.out _ (Below.refl _ _).drew).mono ?_); rintro eA wv ⟨lv, nv, cv, rfl, hFv, hbv⟩; have HFV := Lib.hid hFv; have HBV := Lib.hid ((Below.refl wr.heap.size wr).drew.trans hbv); clear hFv hbv)
      refine hK.out _ _ ?_ (fun hHeld2 => ?_)
      · exact HKEEP.out _ HBV.out
      clear hK K hHeld
      try simp only [Act.put, List.setIfInBounds_toArray, List.set_cons_zero, List.set_cons_succ]
      refine oneL (i := 8) (by kernel_rfl) rfl (fun K hK => ?_)
      go_simp
      refine hK.out _ _ ?_ (fun hHeld => ?_)
      · exact HKEEP.out _ (HBV.out.alloc HBV.out.size _)
      clear hK K hHeld2
      try simp only [Act.put, List.setIfInBounds_toArray, List.set_cons_zero, List.set_cons_succ]
      have HR9 := fun o => Lib.hid ((HR.out.1.below HBV.out).alloc o)
      have HS9 := Lib.hid (Src.oneRow (P := Tryz.prog) (w := wv) (tx := 23) Tryz.underlying23 (V5 k2 i2 b2 ⟨t2.toArray⟩ lv nv cv) _ 25 (g := wv.heap.size) rfl rfl rfl (V5_one _ _ _ _ _ _ _))
      have hle9 : w3.heap.size ≤ wv.heap.size := Nat.le_trans HB3.out HBV.out.size
      refine oneL (i := 9) (by kernel_rfl) rfl (fun K hK => ?_)
      refine step_append_row rfl _ _ 23 23 rfl 25 i0 (.agg #[.int .i64 0, .int .i64 0, .int .u64 0, .string ⟨#[]⟩, .slice none 0 0]) 5 64 Tryz.underlying23 hi hy0 hy1 hy2 rfl rfl (HR9 _).out 1 _ HS9.out (by unfold maxLen; omega) (by omega) (by simp; omega) ?_
      intro a4 c4 w4 hrow hgr hbk
      have HR4 := Lib.hid hrow
      have HG4 := Lib.hid hgr
      have HB4 := Lib.hid hbk
      clear hrow hgr hbk
      have hlp : ∀ x, blockOf l1 = some x → w3.heap.size ≤ x := fun x hx => (HR.out.1.lt x hx).1
      have hkeep4 : ∀ x, x < w3.heap.size → w4.heap[x]? = wr.heap[x]? := fun x hx => by
        have hxr : x < wr.heap.size := Nat.lt_of_lt_of_le hx HB3.out
        rw [HG4.out.block x (by have := HBV.out.size; simp; omega) (fun e => by have := hlp x e.symm; omega), Below.heap_alloc _ _ _ (by have := HBV.out.size; omega), HBV.out.block x hxr]
      have hp9 : p < w3.heap.size ∧ q < w3.heap.size ∧ z < w3.heap.size := by have := HPQ.out; have := H3.out; omega
      have hbb9 : bb < w3.heap.size := by have := HS.out bb (HF.out.own (by have := HJ.out; omega) rfl); have := H3.out; omega
      have cp := fun (b o : Nat) (hb : b < w3.heap.size) (v : Value) (h : wr.cell? ⟨b, o, none⟩ = some v) => (World.cell?_of_block (a := ⟨b, o, none⟩) (hkeep4 b hb)).trans h
      have hQ4 := HQR.out.same (hkeep4 q hp9.2.1)
      have HQ4 := Lib.hid hQ4
      have hq4 := hQ4.cell 4 rfl
      have hf4 := hQ4.free 4 (by simp [V5])
      have hS4 : w4.cell? ⟨p, 4, none⟩ = some (.slice (some ⟨bb, off, none⟩) n c) ∧ w4.cell? ⟨q, 4, none⟩ = some (.slice l1 j c1) ∧ (w4.cell? ⟨bb, off + j * 5, none⟩ = some (.int .i64 k2) ∧ w4.cell? ⟨bb, off + j * 5 + 1, none⟩ = some (.int .i64 i2) ∧ w4.cell? ⟨bb, off + j * 5 + 2, none⟩ = some (.int .u64 b2) ∧ w4.cell? ⟨bb, off + j * 5 + 3, none⟩ = some (.string ⟨t2.toArray⟩) ∧ w4.cell? ⟨bb, off + j * 5 + 4, none⟩ = some (.slice a2 n2 cp2)) := ⟨cp p 4 hp9.1 _ y4, hq4, cp bb _ hbb9 _ e0, cp bb _ hbb9 _ e1, cp bb _ hbb9 _ e2, cp bb _ hbb9 _ e3, cp bb _ hbb9 _ e4⟩
      have HK4 := Lib.hid hkeep4
      refine hK.out _ _ hS4 (fun hHeld2 => ?_)
      clear hK K hHeld hlp hkeep4 hp9 hbb9 cp hQ4
      try simp only [Act.put, List.setIfInBounds_toArray, List.set_cons_zero, List.set_cons_succ]
      refine oneL (i := 10) (by kernel_rfl) rfl (fun K hK => ?_)
      go_simp
      refine hK.out _ _ hS4 (fun hHeld => ?_)
      clear hK K hHeld2
      try simp only [Act.put, List.setIfInBounds_toArray, List.set_cons_zero, List.set_cons_succ]
      refine lastL (i := 11) (by kernel_rfl) rfl (by kernel_rfl) (by kernel_rfl) (fun K hK => ?_)
      go_simp
      refine hK.out _ _ ?_
      clear hK K hHeld hS4
      go_wp2_with fail
      go_roundw
      case rel =>
        have hpq := HPQ.out
        have h3 := H3.out
        refine ⟨dn.app (.cons k2 i2 b2 t2 ks .nil), r2, a4, c4, cs ++ V5 k2 i2 b2 ⟨t2.toArray⟩ lv nv cv, ?_, by rw [Fo.app_assoc]; exact HKK.out, ?_, ?_, ?_⟩
        · rw [Fo.len_app, HJJ.out]; simp [Fo.len]
        · have hl : (dn.app (.cons k2 i2 b2 t2 ks .nil)).len = j + 1 := by rw [Fo.len_app, HJJ.out]; rfl
          rw [hl]
          refine ⟨HR4.out.put (p := ⟨q, 4, none⟩) (by show q < _; omega) _, ?_⟩
          refine At.same _ (cp_next HR.out.1 HR.out.2 HB3.out HFV.out HBV.out HG4.out HB4.out) (fun x hx hlt => ?_) (fun x hx _ => hx)
          exact (Kept.put (N := N1 q) (Kept.refl _ w4) (p := ⟨q, 4, none⟩) (.slice a4 (j + 1) c4) (fun _ => rfl)).block x hlt (by unfold N1; omega)
        · have hl : (dn.app (.cons k2 i2 b2 t2 ks .nil)).len = j + 1 := by rw [Fo.len_app, HJJ.out]; rfl
          rw [hl]
          simpa [V5] using HQ4.out.set (j := 4) (.slice a4 (j + 1) c4)
        · exact (kept_grow HK.out HBV.out HG4.out (fun x hx => (HR.out.1.lt x hx).1)).put (p := ⟨q, 4, none⟩) _ (fun _ => rfl)
      case measure => simp [intOf]; have := HJ.out; omega
theorem cpAll : ∀ f : Fo, f.All CPOK
  | .nil => trivial
  | .cons _ _ _ _ kids rest => ⟨copyN (cpAll kids), cpAll rest⟩
theorem copyG (kids : Fo) : CPOK kids := copyN (cpAll kids)
end Go.Proofs.YtbldidiibkcelaaGreatDoor

