/-
  The counts around the quick ways: a source's writeTo, a sink's readFrom, by induction on the wrappers. Not a statement of the seat.
-/
import Derived.Test.YtigfgdefgnahpaaDoorReadFrom
import Derived.Test.YtigfgdefgnahpaaDoorWriteTo
namespace Go.Proofs.YtigfgdefgnahpaaDoor
open Go.RowKit

theorem mWt104 (b : Value) (w : World) : (method 305 104 (.agg #[b]) "conduit/pipe.writeTo").run Tryd.prog w = .ok (87, .agg #[b]) w := by kernel_rfl
theorem mWt135 (b c f : Value) (w : World) : (method 305 135 (.agg #[b, c, f]) "conduit/pipe.writeTo").run Tryd.prog w = .ok (93, .agg #[b, c, f]) w := by kernel_rfl
theorem mRf108 (b : Value) (w : World) : (method 305 108 (.agg #[b]) "conduit/pipe.readFrom").run Tryd.prog w = .ok (88, .agg #[b]) w := by kernel_rfl
theorem mRf119 (b c f : Value) (w : World) : (method 305 119 (.agg #[b, c, f]) "conduit/pipe.readFrom").run Tryd.prog w = .ok (91, .agg #[b, c, f]) w := by kernel_rfl
theorem cf87 (args : Array Value) (w : World) : (callFunc 87 args).run Tryd.prog w = .ok (.enter 87 args) w := by kernel_rfl
theorem cf88 (args : Array Value) (w : World) : (callFunc 88 args).run Tryd.prog w = .ok (.enter 88 args) w := by kernel_rfl
theorem cf91 (args : Array Value) (w : World) : (callFunc 91 args).run Tryd.prog w = .ok (.enter 91 args) w := by kernel_rfl
theorem cf93 (args : Array Value) (w : World) : (callFunc 93 args).run Tryd.prog w = .ok (.enter 93 args) w := by kernel_rfl

set_option maxRecDepth 100000 in
theorem countWriteTo {below wv : Value} {K : FuncId} {rv : Value} {cb : Nat} {w : World} {n : Nat} {c : Int} {ev : Value} {Q Q' : World → Prop} (hM : Meth "conduit/pipe.writeTo" below K rv)
    (hin : Calls Tryd.prog K #[rv, wv] (w.alloc (.cells #[below, .pointer (some ⟨cb, 0, none⟩), below] 135)) (PostV (.tuple #[.int .i64 n, ev]) Q))
    (hc : 0 ≤ c ∧ c + n ≤ 10000000) (hcell : ∀ w', Q w' → w'.cell? ⟨cb, 0, none⟩ = some (.int .i64 c) ∧ w'.frozen? ⟨cb, 0, none⟩ = false ∧ w'.cell? ⟨w.heap.size, 1, none⟩ = some (.pointer (some ⟨cb, 0, none⟩)))
    (hQ : ∀ w', Q w' → Q' (w'.setCell ⟨cb, 0, none⟩ (.int .i64 (c + n)))) :
    Calls Tryd.prog 93 #[.agg #[below, .pointer (some ⟨cb, 0, none⟩), below], wv] w (PostV (.tuple #[.int .i64 n, ev]) Q') := by
  obtain ⟨T, x, rfl, hm, hcf⟩ := hM
  have HCC := Lib.hid hcell
  have HQ2 := Lib.hid hQ
  clear hcell hQ
  obtain ⟨hc0, hc1⟩ := hc
  have hmx : (if (n : Int) < 0 then (0 : Int) else n) = n := by rw [if_neg (by omega)]
  have hmx2 : (if (0 : Int) < n then (n : Int) else 0) = n := by split <;> omega
  go_enter Tryd.func93, Tryd.ntmps93
  go_wp2_with fail
  refine hin.mono ?_
  rintro e w' ⟨rfl, hq⟩
  obtain ⟨e1, e2, e3⟩ := HCC.out w' hq
  have HQ := Lib.hid hq
  clear hq
  go_wp2
  refine bodyPost_ret (v := .tuple #[.int .i64 (n : Int), ev]) (by simp [results, Tryd.f93, go_sem]) rfl ?_
  exact ⟨rfl, HQ2.out _ HQ.out⟩

set_option maxRecDepth 100000 in
theorem countReadFrom {below wv : Value} {K : FuncId} {rv : Value} {cb : Nat} {w : World} {n : Nat} {c : Int} {ev : Value} {Q Q' : World → Prop} (hM : Meth "conduit/pipe.readFrom" below K rv)
    (hin : Calls Tryd.prog K #[rv, wv] (w.alloc (.cells #[below, .pointer (some ⟨cb, 0, none⟩), below] 119)) (PostV (.tuple #[.int .i64 n, ev]) Q))
    (hc : 0 ≤ c ∧ c + n ≤ 10000000) (hcell : ∀ w', Q w' → w'.cell? ⟨cb, 0, none⟩ = some (.int .i64 c) ∧ w'.frozen? ⟨cb, 0, none⟩ = false ∧ w'.cell? ⟨w.heap.size, 1, none⟩ = some (.pointer (some ⟨cb, 0, none⟩)))
    (hQ : ∀ w', Q w' → Q' (w'.setCell ⟨cb, 0, none⟩ (.int .i64 (c + n)))) :
    Calls Tryd.prog 91 #[.agg #[below, .pointer (some ⟨cb, 0, none⟩), below], wv] w (PostV (.tuple #[.int .i64 n, ev]) Q') := by
  obtain ⟨T, x, rfl, hm, hcf⟩ := hM
  have HCC := Lib.hid hcell
  have HQ2 := Lib.hid hQ
  clear hcell hQ
  obtain ⟨hc0, hc1⟩ := hc
  have hmx : (if (n : Int) < 0 then (0 : Int) else n) = n := by rw [if_neg (by omega)]
  have hmx2 : (if (0 : Int) < n then (n : Int) else 0) = n := by split <;> omega
  go_enter Tryd.func91, Tryd.ntmps91
  go_wp2_with fail
  refine hin.mono ?_
  rintro e w' ⟨rfl, hq⟩
  obtain ⟨e1, e2, e3⟩ := HCC.out w' hq
  have HQ := Lib.hid hq
  clear hq
  go_wp2
  refine bodyPost_ret (v := .tuple #[.int .i64 (n : Int), ev]) (by simp [results, Tryd.f91, go_sem]) rfl ?_
  exact ⟨rfl, HQ2.out _ HQ.out⟩

theorem runM_tot {p m : Nat} (hm : 1 ≤ m) : ∀ (f : Nat) (c : Cp), CpOk p c → (runM (readRound m) f c).1.tot ≤ 65535
  | 0, c, h => by have := h.tot; have := h.s.2.2.1; have := h.s.2.2.2; show c.tot ≤ 65535; omega
  | f + 1, c, h => by
    cases he : (readRound m c).2 with
    | none => rw [runM_more he]; exact runM_tot hm f _ (readRound_ok h hm he).1
    | some e =>
      rw [runM_stop he]
      have g := readM_good c.l c.s m h.s h.l
      have h1 := h.tot
      have h2 := g.bytes
      have h3 := g.pos
      have h4 := g.ok.2.2.1
      have h5 := h.s.2.2.2
      rw [g.data] at h4
      have h6 := fits_le c.t h.t (readM c.l c.s m).n
      show c.tot + c.t.fits (readM c.l c.s m).n ≤ 65535
      omega

theorem runM_len {p m : Nat} (hm : 1 ≤ m) : ∀ (f : Nat) (c : Cp), CpOk p c → (runM (readRound m) f c).1.l.length = c.l.length
  | 0, _, _ => rfl
  | f + 1, c, h => by
    have g := readM_good c.l c.s m h.s h.l
    cases he : (readRound m c).2 with
    | none => rw [runM_more he, runM_len hm f _ (readRound_ok h hm he).1]; exact g.len
    | some e => rw [runM_stop he]; exact g.len
/-- behind the sink's own reading -/
def RdKW (Res : Cp × Int) (l : List KW) (rv wv : Value) (wb : Sh) (sk : Sk) (bk : Int) (w0 : World) (r0 : Own) (w' : World) : Prop :=
  ∃ r', Step (fun k => k < 30 ∨ k = 31 ∨ (40 ≤ k ∧ k ≤ 40 + l.length)) w0 r0 w' r' ∧ Chain w' r' wb rv Res.1.l Res.1.s ∧ SinkAt w' r' sk bk wv (l.map (addK Res.1.tot)) Res.1.t

theorem sinkReadFrom {eb : Nat} {wb : Sh} {sk : Sk} (hsk : sk.rd = true) {rv : Value} {p m : Nat} {F : Nat} {Res : Cp × Int} (hm1 : 1 ≤ m) (hm2 : m ≤ 1000000) :
    ∀ (l : List KW) {wv : Value} {c0 : Cp} {w : World} {r : Own}, Chain w r wb rv c0.l c0.s → SinkAt w r sk (m : Int) wv l c0.t → l.all (·.1) = true → CpOk p c0 → c0.l.length < 20 → (∀ x ∈ l, 0 ≤ x.2 ∧ x.2 ≤ 1000000) → EOFat w r eb → Bnd w r → c0.tot = 0 → c0.s.rem p < F → runM (readRound m) F c0 = Res →
    ∃ K rv', Meth "conduit/pipe.readFrom" wv K rv' ∧ Calls Tryd.prog K #[rv', rv] w (PostV (.tuple #[.int .i64 Res.1.tot, errV eb Res.2]) (RdKW Res l rv wv wb sk m w r))
  | [], wv, c0, w, r, hC, hS, _, hok, hl, _, hE, hbnd, ht, hF, hres => by
    obtain ⟨tb, hv, hT, htb⟩ := hS
    rw [hsk] at hv hT
    refine ⟨88, .agg #[.pointer (some ⟨tb, 0, none⟩)], ?_, ?_⟩
    · rw [hv]; exact ⟨_, _, rfl, fun w => mRf108 _ w, cf88⟩
    · refine (readFromN hC hT hok hl hm1 hm2 hE hbnd ht hF hres rfl rfl).mono ?_
      rintro e w' ⟨rfl, r', h1, h2, h3⟩
      exact ⟨rfl, r', h1.mono (fun k hk => by unfold KR at hk; simp; omega), h2, ⟨tb, by rw [hsk]; exact hv, by rw [hsk]; exact h3, htb⟩⟩
  | x :: l, wv, c0, w, r, hC, hS, hall, hok, hl, hlk, hE, hbnd, ht, hF, hres => by
    obtain ⟨below, hB, hW⟩ := hS
    have hall' : x.1 = true ∧ l.all (·.1) = true := by simpa using hall
    unfold SinkWrap at hW
    rw [if_pos hall'.1] at hW
    obtain ⟨cb, hv, hcb, hBl, hEQ⟩ := hW
    rw [if_pos (by unfold fastK; rw [hall'.2, hsk]; rfl)] at hv
    have halloc := (Step.refl (fun _ => False) hbnd).calm ((Below.refl w.heap.size w).alloc (Nat.le_refl _) (.cells #[below, .pointer (some ⟨cb, 0, none⟩), below] 119))
    obtain ⟨K, rv', hM, hin⟩ := sinkReadFrom (eb := eb) (p := p) (F := F) (Res := Res) hsk hm1 hm2 l (hC.step halloc (fun _ _ h => h) id) (hB.step halloc (fun _ _ _ h => h)) hall'.2 hok hl (fun y hy => hlk y (by simp [hy])) (hE.step halloc) halloc.bound ht hF hres
    have hx := hlk x (by simp)
    have htot : Res.1.tot ≤ 65535 := by rw [← hres]; exact runM_tot hm1 F c0 hok
    refine ⟨91, .agg #[below, .pointer (some ⟨cb, 0, none⟩), below], ?_, ?_⟩
    · rw [hv]; exact ⟨_, _, rfl, fun w => mRf119 _ _ _ w, cf91⟩
    have hcb1 := halloc.oldK hBl.lt hcb
    have hBl1 := hBl.step halloc hcb id
    refine countReadFrom hM (c := x.2) hin ⟨hx.1, by omega⟩ (fun w' hG => ?_) (fun w' hG => ?_)
    · obtain ⟨r', g1, g2, g3⟩ := hG
      have hb' := hBl1.step g1 hcb1 (by omega)
      refine ⟨hb'.cell 0 rfl, hb'.free 0 (by simp), ?_⟩
      have hk0 := g1.keep w.heap.size (by simp) (fun k hk => by rw [hbnd _ (Nat.le_refl _)] at hk; cases hk)
      rw [World.cell?_of_block (a := ⟨w.heap.size, 1, none⟩) hk0]
      simp
    · obtain ⟨r', g1, g2, g3⟩ := hG
      have hcb' := g1.oldK hBl1.lt hcb1
      have k2 : Step (fun k => k = 41 + l.length) w' r' (w'.setCell ⟨cb, 0, none⟩ (.int .i64 (x.2 + (Res.1.tot : Nat)))) r' := (Step.refl _ g1.bound).put _ (fun _ => ⟨_, hcb', rfl⟩)
      refine ⟨r', (((halloc.mono (fun _ h => h.elim)).trans (g1.mono (fun k hk => by simp; omega)))).put _ (fun _ => ⟨_, hcb, by simp; omega⟩), g2.step k2 ?_ (by omega), below, g3.step k2 (fun k h1 h2 e => by rw [List.length_map] at h2; omega), ?_⟩
      · intro k hk e
        have hlen := runM_len (p := p) hm1 F c0 hok
        rw [hres] at hlen
        omega
      · unfold SinkWrap
        have hfk : fastK sk.rd (l.map (addK Res.1.tot)) = true := by rw [fastK_add]; unfold fastK; rw [hall'.2, hsk]; rfl
        rw [if_pos (by simpa [addK] using hall'.1), List.length_map, hfk]
        exact ⟨cb, hv, hcb', (by have := (hBl1.step g1 hcb1 (by omega)).set (j := 0) (.int .i64 (x.2 + (Res.1.tot : Nat))); simpa [addK, hall'.1] using this), hEQ⟩

/-- the counts behind the source's own writing -/
def countAll (n : Nat) (l : List Wr) : List Wr := l.map (fun x => countUp x n)
def WtW (c : Cp) (rv wv : Value) (sh : Sh) (rd : Sk) (bk : Int) (w0 : World) (r0 : Own) (w' : World) : Prop :=
  ∃ r', Step (fun k => k ≤ c.l.length ∨ 40 ≤ k) w0 r0 w' r' ∧ Chain w' r' sh rv (countAll (wrote c) c.l) (writesC c).s ∧ SinkAt w' r' rd bk wv (writesC c).k (writesC c).t
theorem wrote_le {p : Nat} {c : Cp} (h : CpOk p c) : wrote c ≤ 65535 := by
  have := h.s.2.2.1
  have := h.s.2.2.2
  unfold wrote Sc.left
  split <;> omega

theorem chainWriteTo {eb : Nat} {sh : Sh} (hsh : sh.wr = true) {rd : Sk} {bk : Int} {p : Nat} {s : Sc} {k : List KW} {t : Tank} {tot : Nat} {wv : Value} :
    ∀ (l : List Wr) {rv : Value} {w : World} {r : Own}, Chain w r sh rv l s → SinkAt w r rd bk wv k t → l.all (fun x => x.op == 2) = true → CpOk p ⟨l, s, k, t, tot⟩ → l.length < 20 → EOFat w r eb → Bnd w r →
    ∃ K rv', Meth "conduit/pipe.writeTo" rv K rv' ∧ Calls Tryd.prog K #[rv', wv] w (PostV (.tuple #[.int .i64 (wrote ⟨l, s, k, t, tot⟩), errV eb (writesE ⟨l, s, k, t, tot⟩)]) (WtW ⟨l, s, k, t, tot⟩ rv wv sh rd bk w r))
  | [], rv, w, r, hC, hS, _, hok, _, hE, hbnd => by
    obtain ⟨fs, hv, hT, hfs⟩ := hC
    rw [hsh] at hv hT
    refine ⟨87, .agg #[.pointer (some ⟨fs, 0, none⟩)], ?_, ?_⟩
    · rw [hv]; exact ⟨_, _, rfl, fun w => mWt104 _ w, cf87⟩
    · refine (writeToN (c := ⟨[], s, k, t, tot⟩) hT hS hok hok.has hE hbnd rfl rfl).mono ?_
      rintro e w' ⟨rfl, r', h1, h2, h3⟩
      exact ⟨rfl, r', h1.mono (fun k hk => by unfold KO at hk; simp; omega), ⟨fs, by rw [hsh]; exact hv, by rw [hsh]; exact h2, hfs⟩, h3⟩
  | x :: l, rv, w, r, hC, hS, hall, hok, hl, hE, hbnd => by
    obtain ⟨below, hB, hW⟩ := hC
    have hall' : x.op = 2 ∧ l.all (fun x => x.op == 2) = true := by simpa using hall
    unfold WrapAt at hW
    rw [if_pos hall'.1] at hW
    obtain ⟨cb, hv, hcb, hBl, hEQ⟩ := hW
    rw [if_pos (by unfold fastB; rw [hall'.2, hsh]; rfl)] at hv
    have halloc := (Step.refl (fun _ => False) hbnd).calm ((Below.refl w.heap.size w).alloc (Nat.le_refl _) (.cells #[below, .pointer (some ⟨cb, 0, none⟩), below] 135))
    have hok' : CpOk p ⟨l, s, k, t, tot⟩ := ⟨hok.s, hok.some, fun y hy => hok.l y (by simp [hy]), hok.t, hok.has, hok.tot, hok.tk, hok.k, hok.kk⟩
    obtain ⟨K, rv', hM, hin⟩ := chainWriteTo (eb := eb) hsh l (hB.step halloc (fun _ _ h => h) id) (hS.step halloc (fun _ _ _ h => h)) hall'.2 hok' (by simp at hl; omega) (hE.step halloc) halloc.bound
    have hx := hok.l x (by simp)
    have e1 : wrote ⟨x :: l, s, k, t, tot⟩ = wrote ⟨l, s, k, t, tot⟩ := rfl
    have e2 : writesE ⟨x :: l, s, k, t, tot⟩ = writesE ⟨l, s, k, t, tot⟩ := rfl
    have hwl := wrote_le hok'
    have hp65 : (s.pos : Int) ≤ 65535 := by have := hok.s.2.2.1; have := hok.s.2.2.2; dsimp only at *; omega
    have hxc : 0 ≤ x.cnt ∧ x.cnt ≤ s.pos := ⟨hx.2.2.2.1, hx.2.2.2.2.1⟩
    rw [e1, e2]
    refine ⟨93, .agg #[below, .pointer (some ⟨cb, 0, none⟩), below], ?_, ?_⟩
    · rw [hv]; exact ⟨_, _, rfl, fun w => mWt135 _ _ _ w, cf93⟩
    have hcb1 := halloc.oldK hBl.lt hcb
    have hBl1 := hBl.step halloc hcb id
    refine countWriteTo hM (c := x.cnt) hin ⟨hxc.1, by omega⟩ (fun w' hG => ?_) (fun w' hG => ?_)
    · obtain ⟨r', g1, g2, g3⟩ := hG
      have hb' := hBl1.step g1 hcb1 (by simp at hl; dsimp only; omega)
      refine ⟨hb'.cell 0 rfl, hb'.free 0 (by simp), ?_⟩
      have hk0 := g1.keep w.heap.size (by simp) (fun k hk => by rw [hbnd _ (Nat.le_refl _)] at hk; cases hk)
      rw [World.cell?_of_block (a := ⟨w.heap.size, 1, none⟩) hk0]
      simp
    · obtain ⟨r', g1, g2, g3⟩ := hG
      dsimp only at g1
      have hl2 : l.length + 1 < 20 := by simpa using hl
      have hcb' := g1.oldK hBl1.lt hcb1
      have k2 : Step (fun k => k = l.length + 1) w' r' (w'.setCell ⟨cb, 0, none⟩ (.int .i64 (x.cnt + (wrote ⟨l, s, k, t, tot⟩ : Nat)))) r' := (Step.refl _ g1.bound).put _ (fun _ => ⟨_, hcb', rfl⟩)
      have hs1 : (writesC ⟨x :: l, s, k, t, tot⟩).s = (writesC ⟨l, s, k, t, tot⟩).s := by unfold writesC; dsimp only; split <;> rfl
      have hs2 : (writesC ⟨x :: l, s, k, t, tot⟩).k = (writesC ⟨l, s, k, t, tot⟩).k := by unfold writesC; dsimp only; split <;> rfl
      have hs3 : (writesC ⟨x :: l, s, k, t, tot⟩).t = (writesC ⟨l, s, k, t, tot⟩).t := by unfold writesC; dsimp only; split <;> rfl
      have hlen : (countAll (wrote ⟨l, s, k, t, tot⟩) l).length = l.length := by unfold countAll; rw [List.length_map]
      have hops : (countAll (wrote ⟨l, s, k, t, tot⟩) l).map Wr.op = l.map Wr.op := by unfold countAll; rw [List.map_map]; rfl
      refine ⟨r', (((halloc.mono (fun _ h => h.elim)).trans (g1.mono (fun k hk => by simp; omega)))).put _ (fun _ => ⟨_, hcb, by simp⟩), ?_, ?_⟩
      · rw [hs1]
        refine ⟨below, g2.step k2 (fun k hk e => by dsimp only at hk; rw [hlen] at hk; omega) (by omega), ?_⟩
        unfold WrapAt
        rw [if_pos (by simpa [countUp] using hall'.1)]
        show ∃ cb, rv = (if fastB sh.wr (countAll (wrote ⟨l, s, k, t, tot⟩) l) = true then _ else _) ∧ r' cb = some ((countAll (wrote ⟨l, s, k, t, tot⟩) l).length + 1) ∧ Blk _ cb [.int .i64 (x.cnt + (wrote ⟨l, s, k, t, tot⟩ : Nat))] ∧ cb = sh.bl ((countAll (wrote ⟨l, s, k, t, tot⟩) l).length + 1)
        rw [hlen, fastB_ops hops]
        have hfk : fastB sh.wr l = true := by unfold fastB; rw [hall'.2, hsh]; rfl
        rw [hfk]
        exact ⟨cb, hv, hcb', (hBl1.step g1 hcb1 (by omega)).set (j := 0) _, hEQ⟩
      · rw [hs2, hs3]
        exact g3.step k2 (fun k h1 h2 e => by omega)
end Go.Proofs.YtigfgdefgnahpaaDoor
