/-
  The document's reader: value (walk). Not a statement of the seat.
-/
import Derived.Test.YtofpdhkdnbnobaaDoorROne
namespace Go.Proofs.YtofpdhkdnbnobaaDoor
open Go.RowKit

theorem o_res41 {tmps : Array Value} {w : World} {db : Nat} {v0 v1 v2 v3 v4 : Value} (ht : tmps.getD 2 undef = .pointer (some ⟨db, 0, none⟩)) (h : Blk w db [v0, v1, v2, v3, v4]) :
    (results Tryd.f41 tmps).run Tryd.prog w = .ok (.agg #[v0, v1, v2, v3, v4]) w := by
  have c0 := h.cell 0 rfl
  have c1 := h.cell 1 rfl
  have c2 := h.cell 2 rfl
  have c3 := h.cell 3 rfl
  have c4 := h.cell 4 rfl
  have ht' : tmps[2]?.getD undef = .pointer (some ⟨db, 0, none⟩) := by simpa using ht
  simp [results, Tryd.results41, go_sem, ht', c0, c1, c2, c3, c4]
theorem o_fin41 {tmps : Array Value} {w w' : World} {rb b D n : Nat} {S : ByteArray} {bad : Bool} {u0 u1 u2 u3 u4 v0 v1 v2 v3 v4 : Value} {R : Ending → World → Prop} (ht : tmps.getD 2 undef = .pointer (some ⟨w.heap.size, 0, none⟩))
    (h : Rr w' rb S b D n bad) (hB : Ox w w' rb [u0, u1, u2, u3, u4]) (hrb : rb < w.heap.size)
    (hR : ∀ wq, Rr wq rb S b D n bad → Kept (N1 rb) w wq → (∀ x, w.heap.size + 1 ≤ x → x < w'.heap.size → wq.heap[x]? = w'.heap[x]?) → R (.returned (.agg #[v0, v1, v2, v3, v4])) wq) :
    bodyPost Tryd.prog Tryd.f41 R Exit.ret { tmps := tmps, defers := [] } (st5 w' w.heap.size v0 v1 v2 v3 v4) := by
  have hk := st5_kept (w := w') (b := w.heap.size) v0 v1 v2 v3 v4
  refine bodyPost_ret (o_res41 ht (st5_blk hB.out v0 v1 v2 v3 v4)) rfl ?_
  exact hR _ (Blk.keep h hk (by unfold N1; omega)) (hB.kept.over hk (by omega)) (fun x hx hlt => hk.block x hlt (by unfold N1; omega))

/-- what a value comes to, in one form -/
def VAny (S : ByteArray) (D N : Nat) (w w' : World) (res : Res Dt) (bad : Bool) (a' D' n' : Nat) (k i b : Int) (t : ByteArray) (l : Option Addr) (m c : Nat) : Prop :=
  (∃ d, bad = false ∧ res = .ok d a' ∧ N + sizeF d.l ≤ 4096 ∧ n' = N + sizeF d.l ∧ D' = D ∧ a' ≤ S.size ∧ FoAt (fun x => w.heap.size ≤ x) w' d.l l m c ∧ k = d.k ∧ i = d.i ∧ b = d.b ∧ t = ⟨d.t.toArray⟩) ∨
  (bad = true ∧ (res = .bad ∨ ∃ d b', res = .ok d b' ∧ 4096 < N + sizeF d.l)) ∨ (bad = false ∧ res = .bad ∧ D' = D ∧ a' < S.size ∧ 0 ≤ Go.Lib.indexByte hexD (nx S.data.toList a'))
theorem rvp_any {rb D N : Nat} {S : ByteArray} {w w' : World} {res : Res Dt} {e : Ending} (h : RVP rb S D N w res e w') (ho : res ≠ .out) (hD : D ≤ 16) :
    ∃ k i b t l m c bad a' D' n', e = .returned (.agg #[.int .i64 k, .int .i64 i, .int .u64 b, .string t, .slice l m c]) ∧ Rr w' rb S a' D' n' bad ∧ a' ≤ S.size + 1 ∧ D ≤ D' ∧ D' ≤ 17 ∧ Kept (N1 rb) w w' ∧ VAny S D N w w' res bad a' D' n' k i b t l m c := by
  cases res with
  | out => exact absurd rfl ho
  | bad =>
    obtain ⟨⟨k, i, b, t, l, m, c, rfl⟩, ⟨a', D', n', h1, h2, h3, h4, h5⟩ | ⟨a', n', h1, h2, h3, h4⟩⟩ := h
    · exact ⟨k, i, b, t, l, m, c, true, a', D', n', rfl, h1, h2, h3, h4, h5, .inr (.inl ⟨rfl, .inl rfl⟩)⟩
    · exact ⟨k, i, b, t, l, m, c, false, a', D, n', rfl, h1, by omega, Nat.le_refl _, by omega, h4, .inr (.inr ⟨rfl, rfl, rfl, h2, h3⟩)⟩
  | ok d b =>
    rcases h with ⟨h1, l, m, c, rfl, h2, h3, h4, h5⟩ | ⟨h1, ⟨k, i, b', t, l, m, c, rfl⟩, a', D', n', h2, h3, h4, h5, h6⟩
    · exact ⟨_, _, _, _, l, m, c, false, b, D, _, rfl, h3, by omega, Nat.le_refl _, by omega, h5, .inl ⟨d, rfl, rfl, h1, rfl, rfl, h4, h2, rfl, rfl, rfl, rfl⟩⟩
    · exact ⟨k, i, b', t, l, m, c, true, a', D', n', rfl, h2, h3, h4, h5, h6, .inr (.inl ⟨rfl, .inr ⟨d, b, rfl, h1⟩⟩)⟩
theorem rv_any {rb D N a' D' n' m c : Nat} {S : ByteArray} {w v1 v2 wq : World} {res : Res Dt} {bad : Bool} {k i b : Int} {t : ByteArray} {l : Option Addr} (h : VAny S (D + 1) N v1 v2 res bad a' (D' + 1) n' k i b t l m c) (hR : Rr wq rb S a' D' n' bad) (hle : a' ≤ S.size + 1) (hd1 : D ≤ D') (hd2 : D' ≤ 17) (hK : Kept (N1 rb) w wq)
    (hsame : ∀ x, v1.heap.size ≤ x → x < v2.heap.size → wq.heap[x]? = v2.heap[x]?) (hsz : w.heap.size ≤ v1.heap.size) :
    RVP rb S D N w res (.returned (.agg #[.int .i64 k, .int .i64 i, .int .u64 b, .string t, .slice l m c])) wq := by
  rcases h with ⟨d, rfl, rfl, h1, rfl, h2, h3, h4, rfl, rfl, rfl, rfl⟩ | ⟨rfl, rfl | ⟨d, b', rfl, h1⟩⟩ | ⟨rfl, rfl, h1, h2, h3⟩
  · obtain rfl : D' = D := by omega
    exact .inl ⟨h1, l, m, c, rfl, h4.same (fun x hx hlt => hsame x hx hlt) (fun x hx _ => Nat.le_trans hsz hx), hR, h3, hK⟩
  · exact ⟨⟨_, _, _, _, _, _, _, rfl⟩, .inl ⟨a', D', n', hR, hle, hd1, hd2, hK⟩⟩
  · exact .inr ⟨h1, ⟨_, _, _, _, _, _, _, rfl⟩, a', D', n', hR, hle, hd1, hd2, hK⟩
  · obtain rfl : D' = D := by omega
    exact ⟨⟨_, _, _, _, _, _, _, rfl⟩, .inr ⟨a', n', hR, h2, h3, hK⟩⟩
/-- too deep, or too many -/
theorem rv_over {rb D N a n' D' : Nat} {S : ByteArray} {w wq : World} {res : Res Dt} {k i b : Int} {t : ByteArray} {l : Option Addr} {m c : Nat} (ho : res ≠ .out) (h : res = .bad ∨ 4096 < N) (hR : Rr wq rb S a D' n' true) (ha : a ≤ S.size + 1) (hd1 : D ≤ D') (hd2 : D' ≤ 17) (hK : Kept (N1 rb) w wq) :
    RVP rb S D N w res (.returned (.agg #[.int .i64 k, .int .i64 i, .int .u64 b, .string t, .slice l m c])) wq := by
  cases res with
  | out => exact absurd rfl ho
  | bad => exact ⟨⟨_, _, _, _, _, _, _, rfl⟩, .inl ⟨a, D', n', hR, ha, hd1, hd2, hK⟩⟩
  | ok d b' =>
    rcases h with h | h
    · cases h
    · exact .inr ⟨by omega, ⟨_, _, _, _, _, _, _, rfl⟩, a, D', n', hR, ha, hd1, hd2, hK⟩

set_option maxHeartbeats 8000000 in
set_option maxRecDepth 100000 in
theorem rvalueN {S : ByteArray} {f : Nat} (hO : ROOK S f) : RVOK S f := by
  intro rb a D N w h ha hD hN hL hrb7 ho
  have hrb := h.lt
  have HO := Lib.hid ho
  have HB := Lib.hid (Ox.new w rb)
  have HR := Lib.hid (show Rr (ob w) rb S a D N false from Blk.alloc h _)
  have HL := Lib.hid (show Lb (ob w) from hL.keep1 HB.out.kept hrb7)
  have HOK := Lib.hid hO
  clear h hL ho hO
  go_enter Tryd.func41, Tryd.ntmps41
  go_upto_region 1 with (fail)
  change Code.wp _ _ _ _ (ob w)
  generalize ob w = wz at *
  obtain ⟨D1, hD1⟩ : ∃ D1, D1 = D + 1 := ⟨_, rfl⟩
  obtain ⟨N1', hN1⟩ : ∃ N1, N1 = N + 1 := ⟨_, rfl⟩
  have hdi : wrap64 ((D : Int) + 1) = (D1 : Int) := by unfold wrap64; omega
  have hni : wrap64 ((N : Int) + 1) = (N1' : Int) := by unfold wrap64; omega
  have hdi2 : (D : Int) + 1 = (D1 : Int) := by omega
  have hni2 : (N : Int) + 1 = (N1' : Int) := by omega
  have HDN := Lib.hid (And.intro hD1 hN1)
  clear hD1 hN1
  have c2 := HR.out.cell 2 rfl
  have f2 := HR.out.free 2 (by simp)
  have c3 := HR.out.cell 3 rfl
  have f3 := HR.out.free 3 (by simp)
  go_upto_region 3 with (fail)
  have hR0 : Rr ((wz.setCell ⟨rb, 2, none⟩ (.int .i64 (D1 : Nat))).setCell ⟨rb, 3, none⟩ (.int .i64 (N1' : Nat))) rb S a D1 N1' false := by
    have h1 : Blk (wz.setCell ⟨rb, 2, none⟩ (.int .i64 (D1 : Nat))) rb [.string S, .int .i64 a, .int .i64 (D1 : Nat), .int .i64 N, .bool false] := by simpa [Rr] using Blk.set HR.out (j := 2) (.int .i64 (D1 : Nat))
    simpa [Rr] using Blk.set h1 (j := 3) (.int .i64 (N1' : Nat))
  have hK0 : Kept (N1 rb) wz ((wz.setCell ⟨rb, 2, none⟩ (.int .i64 (D1 : Nat))).setCell ⟨rb, 3, none⟩ (.int .i64 (N1' : Nat))) := ((Kept.refl (N1 rb) wz).put (p := ⟨rb, 2, none⟩) _ (fun _ => rfl)).put (p := ⟨rb, 3, none⟩) _ (fun _ => rfl)
  have HR0 := Lib.hid hR0
  have HB0 := Lib.hid (HB.out.keep hK0 hrb)
  have HL0 := Lib.hid (HL.out.keep1 hK0 hrb7)
  generalize (wz.setCell ⟨rb, 2, none⟩ (.int .i64 (D1 : Nat))).setCell ⟨rb, 3, none⟩ (.int .i64 (N1' : Nat)) = w0 at *
  clear hR0 hK0 HR HB HL c2 c3 f2 f3 hdi hni hdi2 hni2
  have c2 := HR0.out.cell 2 rfl
  have c3 := HR0.out.cell 3 rfl
  have e4 := HR0.out.cell 4 rfl
  have f4 := HR0.out.free 4 (by simp)
  have hob := HB0.out.out
  have o0 := hob.cell 0 rfl; have o1 := hob.cell 1 rfl; have o2 := hob.cell 2 rfl; have o3 := hob.cell 3 rfl; have o4 := hob.cell 4 rfl; have p0 := hob.free 0 (by simp [V5]); have p1 := hob.free 1 (by simp [V5]); have p2 := hob.free 2 (by simp [V5]); have p3 := hob.free 3 (by simp [V5]); have p4 := hob.free 4 (by simp [V5])
  clear hob
  have HBAD := Lib.hid (rr_bad HR0.out)
  by_cases hd : D = 16
  · have hdi : (16 : Int) < (D1 : Int) := by have := HDN.out; omega
    have HRES := Lib.hid (show valueM S.data.toList f D a = .bad by
      have hp := valueM_pos HO.out
      obtain ⟨g, rfl⟩ : ∃ g, f = g + 1 := ⟨f - 1, by omega⟩
      rw [valueM, if_pos hd])
    have HD := Lib.hid hd
    clear hd
    go_wp2_with fail
    refine o_fin41 rfl HBAD.out.1 (HB0.out.keep HBAD.out.2 hrb) hrb ?_
    intro wq hRq hKq hsame
    exact rv_over HO.out (.inl HRES.out) hRq (by omega) (by have := HDN.out; omega) (by have := HDN.out; omega) hKq
  · have hdi : ¬ (16 : Int) < (D1 : Int) := by have := HDN.out; omega
    have hD16 : D < 16 := by omega
    clear hd
    by_cases hn : N = 4096
    · have hni : (4096 : Int) < (N1' : Int) := by have := HDN.out; omega
      have HN := Lib.hid hn
      clear hn
      go_wp2_with fail
      refine o_fin41 rfl HBAD.out.1 (HB0.out.keep HBAD.out.2 hrb) hrb ?_
      intro wq hRq hKq hsame
      exact rv_over HO.out (.inr (by have := HN.out; omega)) hRq (by omega) (by have := HDN.out; omega) (by have := HDN.out; omega) hKq
    · have hni : ¬ (4096 : Int) < (N1' : Int) := by have := HDN.out; omega
      have hN1 : N1' ≤ 4096 := by omega
      have HC := Lib.hid (HOK.out rb a D N1' w0 (by rw [← HDN.out.1]; exact HR0.out) ha hD16 hN1 HL0.out hrb7 HO.out)
      have HSZ := Lib.hid (show w.heap.size ≤ w0.heap.size from Nat.le_of_lt HB0.out.out.lt)
      have hDD : D + 1 ≤ 16 := by omega
      clear hn e4 f4 o0 o1 o2 o3 o4 p0 p1 p2 p3 p4
      go_upto_region 7 with (go_at_call 73; (with_reducible refine HC.out.mono ?_); rintro e w1 hpost; obtain ⟨k, i, b, t, l, m, c, bad, a', D', n', rfl, hRx, hle, hd1, hd2, hKx, hcase⟩ := rvp_any hpost HO.out hDD; have HR1 := Lib.hid hRx; have HB1 := Lib.hid (HB0.out.keep hKx hrb); have HK1 := Lib.hid hKx; have HCA := Lib.hid hcase; clear hpost hRx hKx hcase)
      have hKal : Kept (N1 rb) w1 (w1.alloc (.cells #[.int .i64 k, .int .i64 i, .int .u64 b, .string t, .slice l m c] 25)) := (Kept.refl _ _).alloc _
      have HPy := Lib.hid (Blk.new w1 #[.int .i64 k, .int .i64 i, .int .u64 b, .string t, .slice l m c] 25)
      have HRy := Lib.hid (Blk.alloc HR1.out (.cells #[.int .i64 k, .int .i64 i, .int .u64 b, .string t, .slice l m c] 25))
      have HBy := Lib.hid (HB1.out.keep hKal hrb)
      have HKy := Lib.hid hKal
      have hPw : w.heap.size < w1.heap.size := HB1.out.out.lt
      have HP1 := Lib.hid (show ∀ x, x < w1.heap.size → (w1.alloc (.cells #[.int .i64 k, .int .i64 i, .int .u64 b, .string t, .slice l m c] 25)).heap[x]? = w1.heap[x]? from fun x hx => ((Below.refl w1.heap.size w1).alloc (Nat.le_refl _) _).block x hx)
      have HP2 := Lib.hid (show w1.heap.size ≤ (w1.alloc (.cells #[.int .i64 k, .int .i64 i, .int .u64 b, .string t, .slice l m c] 25)).heap.size from hKal.size)
      generalize w1.alloc (.cells #[.int .i64 k, .int .i64 i, .int .u64 b, .string t, .slice l m c] 25) = y0 at *
      generalize hPP : w1.heap.size = P at *
      have hPrb : ¬ N1 rb P := by unfold N1; omega
      obtain ⟨D2, rfl⟩ : ∃ D2, D' = D2 + 1 := ⟨D' - 1, by omega⟩
      have hdd : wrap64 (((D2 + 1 : Nat) : Int) - 1) = (D2 : Int) := by unfold wrap64; omega
      have hdd2 : ((D2 + 1 : Nat) : Int) - 1 = (D2 : Int) := by omega
      obtain ⟨DX, hDX⟩ : ∃ DX, DX = D2 + 1 := ⟨_, rfl⟩
      rw [← hDX] at HRy hdd hdd2
      have c2 := HRy.out.cell 2 rfl
      have f2 := HRy.out.free 2 (by simp)
      have HDX := Lib.hid hDX
      have HPP := Lib.hid hPP
      clear hKal hDX hPP
      go_upto_region 8 with (fail)
      have hRz : Rr (y0.setCell ⟨rb, 2, none⟩ (.int .i64 (D2 : Nat))) rb S a' D2 n' bad := by simpa [Rr] using Blk.set HRy.out (j := 2) (.int .i64 (D2 : Nat))
      have hKz : Kept (N1 rb) y0 (y0.setCell ⟨rb, 2, none⟩ (.int .i64 (D2 : Nat))) := (Kept.refl _ _).put (p := ⟨rb, 2, none⟩) _ (fun _ => rfl)
      have HRz := Lib.hid hRz
      have HBz := Lib.hid (HBy.out.keep hKz hrb)
      have HPz := Lib.hid (HPy.out.keep hKz hPrb)
      have HKz := Lib.hid hKz
      generalize y0.setCell ⟨rb, 2, none⟩ (.int .i64 (D2 : Nat)) = z at *
      clear hRz hKz c2 f2 hdd hdd2
      have q0 := HPz.out.cell 0 rfl; have q1 := HPz.out.cell 1 rfl; have q2 := HPz.out.cell 2 rfl; have q3 := HPz.out.cell 3 rfl; have q4 := HPz.out.cell 4 rfl
      have hob := HBz.out.out
      have o0 := hob.cell 0 rfl; have o1 := hob.cell 1 rfl; have o2 := hob.cell 2 rfl; have o3 := hob.cell 3 rfl; have o4 := hob.cell 4 rfl; have p0 := hob.free 0 (by simp [V5]); have p1 := hob.free 1 (by simp [V5]); have p2 := hob.free 2 (by simp [V5]); have p3 := hob.free 3 (by simp [V5]); have p4 := hob.free 4 (by simp [V5])
      clear hob
      go_wp2_with fail
      refine o_fin41 rfl HRz.out HBz.out hrb ?_
      intro wq hRq hKq hsame
      rw [← HDN.out.2]
      refine rv_any HCA.out hRq hle (by omega) (by omega) hKq (fun x hx hlt => ?_) HSZ.out
      rw [HPP.out] at hlt
      have h1 := HP2.out
      have h2 := HKz.out.size
      have h3 := HB0.out.out.lt
      rw [hsame x (by have := HB0.out.out.lt; omega) (by omega), HKz.out.block x (by omega) (fun e => by unfold N1 at e; omega), HP1.out x hlt]
/-- every text -/
theorem rall {S : ByteArray} (hS : S.size ≤ 1000000000000) : ∀ (f : Nat), RVOK S f := by
  intro f
  induction f using Nat.strongRecOn with
  | _ f ih =>
    refine rvalueN ?_
    cases f with
    | zero =>
      intro rb a d N w _ _ _ _ _ _ ho
      exact absurd rfl ho
    | succ g => exact roneN hS (rrowsN hS (fun k hk => ih k (by omega)))
end Go.Proofs.YtofpdhkdnbnobaaDoor
