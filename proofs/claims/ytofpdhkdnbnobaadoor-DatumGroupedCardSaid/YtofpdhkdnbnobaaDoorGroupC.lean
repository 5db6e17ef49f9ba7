/-
  Group of the code (walk). Not a statement of the seat.
-/
import Derived.Test.YtofpdhkdnbnobaaDoorKeyEq
import Derived.Test.YtofpdhkdnbnobaaDoorEqual
import Derived.Test.YtofpdhkdnbnobaaDoorFit
namespace Go.Proofs.YtofpdhkdnbnobaaDoor
open Go.RowKit

theorem okE_size {d : Dt} (h : okD d) : sizeF d.l ≤ 100000 := by have := h.1; omega
theorem okE_fits {d : Dt} (h : okD d) : fitsM d.k d.i d.b d.t d.l.len = true ∧ rightM d.l = true := by
  have h3 := h.2.2
  rw [right_fo, Bool.and_eq_true] at h3
  exact h3
theorem Ar.equalE {S : Nat → Prop} {w : World} {d e : Dt} {l l' : Option Addr} {n c n' c' : Nat} (h : Ar S w d l n c) (h' : Ar S w e l' n' c') (ho : okD d) (ho' : okD e) :
    Calls Tryd.prog 29 #[.agg #[.int .i64 d.k, .int .i64 d.i, .int .u64 d.b, .string ⟨d.t.toArray⟩, .slice l n c], .agg #[.int .i64 e.k, .int .i64 e.i, .int .u64 e.b, .string ⟨e.t.toArray⟩, .slice l' n' c']] w (EUP (eqD d e) w) :=
  equalN h.at' h'.at' h.lt (okE_fits ho).1 (okE_fits ho).2 (okE_fits ho').1 (okE_fits ho').2 (okE_size ho) (okE_size ho')
theorem Ar.requalE {S : Nat → Prop} {w : World} {d e : Dt} {l l' : Option Addr} {n c n' c' : Nat} (h : Ar S w d l n c) (h' : Ar S w e l' n' c') (ho : okD d) (ho' : okD e) :
    Calls Tryd.prog 30 #[.agg #[.int .i64 d.k, .int .i64 d.i, .int .u64 d.b, .string ⟨d.t.toArray⟩, .slice l n c], .agg #[.int .i64 e.k, .int .i64 e.i, .int .u64 e.b, .string ⟨e.t.toArray⟩, .slice l' n' c']] w (EUP (eqD d e) w) := by
  refine reqG d.l e.l d.k d.i d.b e.k e.i e.b d.t e.t l l' n c n' c' S w h.at' h'.at' h.lt (fun e9 => ?_) (fun e9 => ?_) (shape_right _ (okE_fits ho).2) (shape_right _ (okE_fits ho').2)
  · have := (okE_fits ho).1; rw [e9] at this; simp [fitsM] at this; omega
  · have := (okE_fits ho').1; rw [e9] at this; simp [fitsM] at this; omega
/-- a row's values as a list -/
def Fo.toL : Fo → List Dt
  | .nil => []
  | .cons k i b t ks r => ⟨k, i, b, t, ks⟩ :: r.toL
theorem Fo.toL_len : ∀ f : Fo, f.toL.length = f.len
  | .nil => rfl
  | .cons _ _ _ _ _ r => by simp [Fo.toL, Fo.len, Fo.toL_len r]
theorem Fo.toL_app : ∀ (f g : Fo), (f.app g).toL = f.toL ++ g.toL
  | .nil, _ => rfl
  | .cons _ _ _ _ _ r, g => by simp [Fo.toL, Fo.app, Fo.toL_app r g]
theorem Fo.toL_at {dn r2 : Fo} {k i b : Int} {t : Bs} {ks : Fo} : (dn.app (.cons k i b t ks r2)).toL.getD dn.len Dt.zero = ⟨k, i, b, t, ks⟩ := by
  rw [Fo.toL_app, ← Fo.toL_len dn]
  simp [Fo.toL]
theorem shape_toL : ∀ f : Fo, shapeF f → ∀ j, shapeD (f.toL.getD j Dt.zero)
  | .nil, _, j => by
    have h : (Fo.nil.toL.getD j Dt.zero) = Dt.zero := by simp [Fo.toL]
    rw [h]
    exact ⟨fun e => by simp [Dt.zero] at e, trivial⟩
  | .cons k i b t ks r, h, 0 => ⟨h.1.1, h.2.1⟩
  | .cons k i b t ks r, h, j + 1 => by
    have := shape_toL r h.2.2 j
    simpa [Fo.toL] using this
/-- what the places are -/
def outL (l : List Dt) (n : Nat) : List Value := (List.range n).map fun i => .int .i64 (gAt l i : Nat)
theorem outL_succ (l : List Dt) (n : Nat) : outL l (n + 1) = outL l n ++ [.int .i64 (gAt l n : Nat)] := by simp [outL, List.range_succ]
theorem entL_succ (l : List Dt) (n : Nat) : entL l (n + 1) = entL l n ++ (if gAt l n == n then [n] else []) := by
  unfold entL
  rw [List.range_succ, List.filter_append]
  congr 1
  simp only [List.filter_cons, List.filter_nil]
/-- what Group comes to -/
def GRP (f : Fo) (w : World) (e : Ending) (w' : World) : Prop :=
  ∃ a n c xs er, e = .returned (.tuple #[.slice a n c, .int .i64 er]) ∧ Rd w' 1 a n c xs ∧ Below w.heap.size w w' ∧
    ((keyF f = true ∧ er = 0 ∧ n = f.len ∧ xs = outL f.toL f.len) ∨ (keyF f = false ∧ er = 11 ∧ n = 0 ∧ xs = []))

theorem catch44_p {p q : Addr} {x : Value} {y : Int} (u : TypeId) (pv : Value) (older : List PanicEntry) {w : World} (hc : w.cell? p = some x) (hz : w.frozen? p = false) (hd : w.cell? q = some (.int .i64 y)) (hy : w.frozen? q = false) (hne : p.block ≠ q.block) :
    CallsD Tryd.prog 44 #[.pointer (some p), .pointer (some q)] (.panicking ({ v := .iface u pv, recovered := false } :: older)) w fun e u' w' =>
      e = .returned (.tuple #[]) ∧ u' = .panicking ({ v := .iface u pv, recovered := true } :: older) ∧ w' = (w.setCell p (.slice none 0 0)).setCell q (.int .i64 11) := by
  have hd' : (w.setCell p (.slice none 0 0)).cell? q = some (.int .i64 y) := by rw [World.cell?_setCell_other (h := fun e => hne (by rw [e]))]; exact hd
  refine callsD_of_wpS Tryd.func44 rfl fun c₀ cs hu => ?_
  apply wpS_seq
  apply wpS_region
  simp [wpOpsS, go_sem, recoverD, hu, Tryd.ntmps44, Exit.thenS]
  refine wpS_cond (t := true) (by simp [Act.eval, Array.replicate]) ?_
  simp only [if_true]
  apply wpS_region
  simp [wpOpsS, go_sem, hc, hz, hd', hy, bodyPostS, results, Tryd.results44]
theorem catch44_idle (p q : Addr) (w : World) :
    CallsD Tryd.prog 44 #[.pointer (some p), .pointer (some q)] .returning w fun e u' w' => e = .returned (.tuple #[]) ∧ u' = .returning ∧ w' = w := by
  refine callsD_of_wpS Tryd.func44 rfl fun c₀ cs hu => ?_
  apply wpS_seq
  apply wpS_region
  simp [wpOpsS, go_sem, recoverD, hu, Tryd.ntmps44, Exit.thenS]
  refine wpS_cond (t := false) (by simp [Act.eval, Array.replicate]) ?_
  simp only [Bool.false_eq_true, if_false]
  refine wpS_of_wp (wp_skip ?_)
  cases c₀
  simp_all [bodyPostS, results, Tryd.results44]
theorem g_res {tmps : Array Value} {w : World} {ob er : Nat} {a : Option Addr} {n c : Nat} {y : Int} (h2 : tmps.getD 2 undef = .pointer (some ⟨ob, 0, none⟩)) (h3 : tmps.getD 3 undef = .pointer (some ⟨er, 0, none⟩)) (hi : Blk w ob [.slice a n c]) (he : Blk w er [.int .i64 y]) :
    (results Tryd.f24 tmps).run Tryd.prog w = .ok (.tuple #[.slice a n c, .int .i64 y]) w := by
  have c0 := hi.cell 0 rfl
  have d0 := he.cell 0 rfl
  have h2' : tmps[2]?.getD undef = .pointer (some ⟨ob, 0, none⟩) := by simpa using h2
  have h3' : tmps[3]?.getD undef = .pointer (some ⟨er, 0, none⟩) := by simpa using h3
  simp [results, Tryd.results24, go_sem, h2', h3', c0, d0]

/-- the blocks that Group lays first -/
def gw (w : World) : World := ((w.alloc (.cells #[.slice none 0 0] 39)).alloc (.cells #[.int .i64 0] 29)).alloc (.map #[] 0)
theorem gw_facts (w : World) : (Blk (gw w) w.heap.size [.slice none 0 0] ∧ Blk (gw w) (w.heap.size + 1) [.int .i64 0] ∧ MapV (gw w) (w.heap.size + 1 + 1) []) ∧ Below w.heap.size w (gw w) ∧ (gw w).heap.size = w.heap.size + 3 := by
  have e1 : (w.alloc (.cells #[.slice none 0 0] 39)).heap.size = w.heap.size + 1 := by simp
  have e2 : ((w.alloc (.cells #[.slice none 0 0] 39)).alloc (.cells #[.int .i64 0] 29)).heap.size = w.heap.size + 1 + 1 := by simp
  have n1 := Blk.new w #[.slice none 0 0] 39
  have n2 := Blk.new (w.alloc (.cells #[.slice none 0 0] 39)) #[.int .i64 0] 29
  have n3 := MapV.new ((w.alloc (.cells #[.slice none 0 0] 39)).alloc (.cells #[.int .i64 0] 29))
  rw [e1] at n2
  rw [e2] at n3
  refine ⟨⟨?_, ?_, ?_⟩, ?_, by simp [gw]⟩
  · exact (n1.alloc (.cells #[.int .i64 0] 29)).alloc (.map #[] 0)
  · exact n2.alloc (.map #[] 0)
  · exact n3
  · exact ((((Below.refl _ w).alloc (Nat.le_refl _) _).alloc (by rw [e1]; omega) _).alloc (by rw [e2]; omega) _)

theorem ValF.at {M : BM} : ∀ (f : Fo) {xs : List Value}, ValF M f xs → ∀ j, j < f.len → ∃ x, xs[j]? = some x ∧ vOne M (f.toL.getD j Dt.zero).k (f.toL.getD j Dt.zero).i (f.toL.getD j Dt.zero).b (f.toL.getD j Dt.zero).t (ValF M (f.toL.getD j Dt.zero).l) x
  | .nil, _, _, j, hj => by simp [Fo.len] at hj
  | .cons k i b t ks r, xs, h, 0, _ => by
    obtain ⟨x, xs', rfl, h1, h2⟩ := h
    exact ⟨x, rfl, h1⟩
  | .cons k i b t ks r, xs, h, j + 1, hj => by
    obtain ⟨x, xs', rfl, h1, h2⟩ := h
    have hj' : j < r.len := by simp only [Fo.len] at hj; omega
    obtain ⟨y, e, hy⟩ := ValF.at r h2 j hj'
    exact ⟨y, by simpa using e, by simpa [Fo.toL] using hy⟩
theorem okF_at : ∀ (f : Fo), okF f → ∀ j, j < f.len → okD (f.toL.getD j Dt.zero)
  | .nil, _, j, hj => by simp [Fo.len] at hj
  | .cons _ _ _ _ _ _, h, 0, _ => h.1
  | .cons k i b t ks r, h, j + 1, hj => by
    have hj' : j < r.len := by simp only [Fo.len] at hj; omega
    simpa [Fo.toL] using okF_at r h.2 j hj'
theorem okF_right : ∀ f : Fo, okF f → rightM f = true
  | .nil, _ => rfl
  | .cons k i b t ks r, h => by
    have h1 := okE_fits h.1
    simp only [rightM, Bool.and_eq_true]
    exact ⟨⟨h1.1, h1.2⟩, okF_right r h.2⟩
theorem keyF_all : ∀ f : Fo, (∀ j, j < f.len → keyD (f.toL.getD j Dt.zero) = true) → keyF f = true
  | .nil, _ => rfl
  | .cons k i b t ks r, h => by
    simp only [keyF, Bool.and_eq_true]
    refine ⟨h 0 (by simp [Fo.len]), keyF_all r (fun j hj => ?_)⟩
    have := h (j + 1) (by simp only [Fo.len]; omega)
    simpa [Fo.toL] using this
theorem keyF_not : ∀ (f : Fo) (j : Nat), j < f.len → keyD (f.toL.getD j Dt.zero) = false → keyF f = false
  | .nil, j, hj, _ => by simp [Fo.len] at hj
  | .cons k i b t ks r, 0, _, h => by
    have h' : keyOne k (keyF ks) = false := h
    simp [keyF, h']
  | .cons k i b t ks r, j + 1, hj, h => by
    have := keyF_not r j (by simp only [Fo.len] at hj; omega) (by simpa [Fo.toL] using h)
    simp [keyF, this]
theorem find_congr {α : Type} {p q : α → Bool} : ∀ (l : List α), (∀ x ∈ l, p x = q x) → l.find? p = l.find? q
  | [], _ => rfl
  | a :: r, h => by
    rw [List.find?_cons, List.find?_cons, h a (by simp), find_congr r (fun x hx => h x (by simp [hx]))]
/-- the entries of the map -/
def entV (L : List Dt) (xs : List Value) (n : Nat) : List (Value × Value) := (entL L n).map fun i => (xs.getD i undef, .int .i64 (i : Nat))
theorem entL_lt {L : List Dt} {n i : Nat} (h : i ∈ entL L n) : i < n := by
  unfold entL at h
  exact List.mem_range.1 (List.mem_filter.1 h).1

set_option maxRecDepth 100000 in
/-- a lookup among the firsts; p: what '==' says of a value -/
theorem find_entV {f : Fo} {M : BM} {mb j : Nat} {xs : List Value} {w : World} (hB : BxM M mb w) (hV : ValF M f xs) (hok : okF f) (hj : j < f.len) (hk : ∀ i, i ≤ j → keyD (f.toL.getD i Dt.zero) = true) {x : Value} (hx : xs[j]? = some x) :
    ∃ p : Value → Bool, (∀ c, (Instr.checkKey c 10000 20 x).run Tryd.prog w = .ok () w) ∧ (∀ q ∈ entV f.toL xs j, (Op.equal 20 x q.1).run Tryd.prog w = .ok (p q.1) w) ∧
    ((entV f.toL xs j).find? fun q => p q.1) = (firstN f.toL j (f.toL.getD j Dt.zero)).map fun i => (xs.getD i undef, .int .i64 (i : Nat)) := by
  have hsh := shape_toL f (shape_right f (okF_right f hok))
  obtain ⟨x', hx', hvx⟩ := hV.at f j hj
  rw [hx] at hx'
  cases hx'
  have hoj := okF_at f hok j hj
  have hfj := okE_fits hoj
  have hhj : 1 + hiF (f.toL.getD j Dt.zero).l ≤ 16 := hoj.2.1
  have heq : ∀ i, i < j → (Op.equal 20 x (xs.getD i undef)).run Tryd.prog w = .ok (eqD (f.toL.getD i Dt.zero) (f.toL.getD j Dt.zero)).1 w := by
    intro i hi
    obtain ⟨y, hy, hvy⟩ := hV.at f i (by omega)
    have hoi := okE_fits (okF_at f hok i (by omega))
    have h := eiG _ _ _ _ _ _ _ _ _ _ _ _ M mb 10000 w hB hvx hvy (hk j (Nat.le_refl _)) (hk i (by omega)) hfj.1 hfj.2 hoi.1 hoi.2 (by omega)
    have hg : xs.getD i undef = y := by simp [List.getD, hy]
    rw [hg, eqD_symm]
    exact h
  obtain ⟨pV, hpV⟩ : ∃ pV : Value → Bool, ∀ v b w', (Op.equal 20 x v).run Tryd.prog w = .ok b w' → pV v = b :=
    ⟨fun v => match (Op.equal 20 x v).run Tryd.prog w with | .ok b _ => b | _ => false, fun v b w' h => by simp only [h]⟩
  have hp : ∀ i, i < j → pV (xs.getD i undef) = (eqD (f.toL.getD i Dt.zero) (f.toL.getD j Dt.zero)).1 := fun i hi => hpV _ _ _ (heq i hi)
  refine ⟨pV, fun c => ?_, fun q hq => ?_, ?_⟩
  · rcases ckG _ _ _ _ _ x M c 10000 w (fits_k hfj.1).1 (fits_k hfj.1).2 hvx hfj.2 (by omega) with ⟨_, h⟩ | ⟨h, _⟩
    · exact h
    · have := hk j (Nat.le_refl _)
      unfold keyD at this
      rw [this] at h
      cases h
  · obtain ⟨i, hi, rfl⟩ := List.mem_map.1 hq
    have hlt := entL_lt hi
    show (Op.equal 20 x (xs.getD i undef)).run Tryd.prog w = .ok (pV (xs.getD i undef)) w
    rw [hp i hlt]
    exact heq i hlt
  · unfold entV
    rw [List.find?_map]
    rw [show ((fun q : Value × Value => pV q.1) ∘ fun i : Nat => (xs.getD i undef, Value.int .i64 (i : Nat))) = fun i => pV (xs.getD i undef) from rfl]
    rw [find_congr (q := fun i => (eqD (f.toL.getD i Dt.zero) (f.toL.getD j Dt.zero)).1) _ (fun i hi => hp i (entL_lt hi)), find_ent hsh j (hsh j)]
set_option maxRecDepth 100000 in
theorem bad_key {f : Fo} {M : BM} {j : Nat} {xs : List Value} {w : World} (hV : ValF M f xs) (hok : okF f) (hj : j < f.len) (hk : keyD (f.toL.getD j Dt.zero) = false) {x : Value} (hx : xs[j]? = some x) :
    ∀ c, ∃ u v, (Instr.checkKey c 10000 20 x).run Tryd.prog w = .halt (.panic (.iface u v)) w := by
  obtain ⟨x', hx', hvx⟩ := hV.at f j hj
  rw [hx] at hx'
  cases hx'
  have hoj := okF_at f hok j hj
  have hfj := okE_fits hoj
  have hhj : 1 + hiF (f.toL.getD j Dt.zero).l ≤ 16 := hoj.2.1
  intro c
  rcases ckG _ _ _ _ _ x M c 10000 w (fits_k hfj.1).1 (fits_k hfj.1).2 hvx hfj.2 (by omega) with ⟨h, _⟩ | ⟨_, h⟩
  · unfold keyD at hk
    rw [hk] at h
    cases h
  · exact h

theorem intInfo : (Tryd.prog.info? 3).map (fun i => (i.zero, i.size, i.bytes)) = some (some (.int .i64 0), 1, 8) := by kernel_rfl
theorem zeroInt : ∀ w, (zeroValue 3).run Tryd.prog w = .ok (.int .i64 0) w := fun _ => by kernel_rfl
/-- between two rounds -/
def GrRel (f : Fo) (xs : List Value) (fm ob : Nat) (wL : World) (t15 : Value) (wr : World) : Prop :=
  ∃ (j : Nat) (ao : Option Addr) (co : Nat), t15 = .int .i64 (j : Nat) ∧ j ≤ f.len ∧ MapV wr fm (entV f.toL xs j) ∧ Blk wr ob [.slice ao j co] ∧ Row wL.heap.size wr 1 ao j co (outL f.toL j) ∧ Kept (fun x => x = fm ∨ x = ob) wL wr ∧ ∀ i, i < j → keyD (f.toL.getD i Dt.zero) = true

theorem gr_next {f : Fo} {xs : List Value} {fm ob j : Nat} {wL w5 w4 : World} {ao a4 : Option Addr} {co c4 : Nat} {v : Value} {o : Obj} (hf : fm ≠ ob) (hob : ob < wL.heap.size) (hj : j < f.len) (hM : MapV w5 fm (entV f.toL xs (j + 1))) (hR : Row wL.heap.size w4 1 a4 (j + 1) c4 (outL f.toL j ++ [v])) (hv : v = .int .i64 (gAt f.toL j : Nat))
    (hG : (w5.alloc o).grownBy w4 (blockOf ao)) (hO : Blk w4 ob [.slice ao j co]) (hoL : ∀ b, blockOf ao = some b → b ≠ ob ∧ b ≠ fm) (hao : ∀ b, blockOf ao = some b → wL.heap.size ≤ b) (hK : Kept (fun x => x = fm ∨ x = ob) wL w5) (hkeys : ∀ i, i ≤ j → keyD (f.toL.getD i Dt.zero) = true) :
    GrRel f xs fm ob wL (.int .i64 ((j : Int) + 1)) (w4.setCell ⟨ob, 0, none⟩ (.slice a4 (j + 1) c4)) := by
  refine ⟨j + 1, a4, c4, by go_num, by omega, ?_, ?_, ?_, ?_, fun i hi => hkeys i (by omega)⟩
  · have h1 := (hM.below ((Below.refl _ w5).alloc (Nat.le_refl _) o)).kept hG (fun e => (hoL fm e.symm).2 rfl)
    exact h1.kept (grownBy_setAt _ _ _) (fun e => hf (by cases e; rfl))
  · exact hO.set (j := 0) _
  · rw [outL_succ, ← hv]
    exact hR.put (p := ⟨ob, 0, none⟩) hob _
  · exact ((hK.alloc o).grown hG (fun b e hb => absurd (hao b e) (by omega))).put (p := ⟨ob, 0, none⟩) _ (fun _ => .inr rfl)
theorem entV_none {f : Fo} {xs : List Value} {j : Nat} {x : Value} (h : firstN f.toL j (f.toL.getD j Dt.zero) = none) (hx : xs[j]? = some x) : gAt f.toL j = j ∧ entV f.toL xs (j + 1) = entV f.toL xs j ++ [(x, .int .i64 (j : Nat))] := by
  have hg : gAt f.toL j = j := by unfold gAt; rw [h]; rfl
  refine ⟨hg, ?_⟩
  unfold entV
  rw [entL_succ, hg]
  simp [List.getD, hx]
theorem entV_some {f : Fo} {xs : List Value} {j m : Nat} (h : firstN f.toL j (f.toL.getD j Dt.zero) = some m) : gAt f.toL j = m ∧ entV f.toL xs (j + 1) = entV f.toL xs j := by
  have hg : gAt f.toL j = m := by unfold gAt; rw [h]; rfl
  have hm := (firstN_some.1 h).2.1
  refine ⟨hg, ?_⟩
  unfold entV
  rw [entL_succ, hg]
  have : (m == j) = false := by simp; omega
  rw [this]
  simp

set_option maxHeartbeats 8000000 in
set_option maxRecDepth 100000 in
theorem groupN {f : Fo} {l : Option Addr} {n c : Nat} {S : Nat → Prop} {w : World} (hF : FoAt S w f l n c) (hS : ∀ x, S x → x < w.heap.size) (hok : okF f) (hs : sizeF f ≤ 100000) :
    Calls Tryd.prog 24 #[.slice l n c] w (GRP f w) := by
  obtain ⟨i0, hi, hy0, hy1, hy2⟩ := info_parts intInfo
  obtain ⟨⟨hO, hE, hM⟩, hB, hz⟩ := gw_facts w
  have hmf : ∀ (fn : Fn) (first cap : Array Value) (w : World), (Instr.makeFunc fn first cap).run Tryd.prog w = .ok (.func fn first cap) w := fun _ _ _ _ => rfl
  have hmk : ∀ w : World, (Instr.makeMap 76 none).run Tryd.prog w = .ok (.map (some w.heap.size)) (w.alloc (.map #[] 0)) := fun _ => by kernel_rfl
  have hmk2 : ∀ w : World, (Instr.makeMap 73 none).run Tryd.prog w = .ok (.map (some w.heap.size)) (w.alloc (.map #[] 0)) := fun _ => by kernel_rfl
  have HF := Lib.hid hF
  have HS := Lib.hid hS
  have HOK := Lib.hid hok
  have HSZ := Lib.hid hs
  have HB := Lib.hid hB
  have HZ := Lib.hid hz
  clear hF hS hok hs hB hz
  go_enter_defers Tryd.func24, Tryd.ntmps24
  go_upto_region 3 with (fail)
  change Code.wp _ _ _ _ (gw w)
  generalize gw w = w1 at *
  obtain ⟨fm, hfm⟩ : ∃ x, x = w.heap.size + 1 + 1 := ⟨_, rfl⟩
  obtain ⟨er, her⟩ : ∃ x, x = w.heap.size + 1 := ⟨_, rfl⟩
  obtain ⟨ob, hob⟩ : ∃ x, x = w.heap.size := ⟨_, rfl⟩
  rw [← hfm] at hM
  rw [← her] at hE
  rw [← hob] at hO
  rw [← hfm, ← her, ← hob]
  have HAD := Lib.hid (show ob = w.heap.size ∧ er = w.heap.size + 1 ∧ fm = w.heap.size + 2 ∧ w1.heap.size = w.heap.size + 3 from ⟨hob, her, by omega, HZ.out⟩)
  have hbx := BxM.new w1
  have HBX := Lib.hid hbx
  have hab : Below w1.heap.size w1 (w1.alloc (.map #[] 0)) := (Below.refl _ _).alloc (Nat.le_refl _) _
  have HO := Lib.hid (hO.below hab)
  have HE := Lib.hid (hE.below hab)
  have HM := Lib.hid (hM.below hab)
  have HB2 := Lib.hid (HB.out.trans (hab.mono HB.out.size))
  have HF2 := Lib.hid (HF.out.same (w' := w1.alloc (.map #[] 0)) (fun x hx hlt => HB2.out.block x hlt) (fun _ hx _ => hx))
  have HC := Lib.hid (vbsN (vbAll f) (M := []) (mb := w1.heap.size) HF2.out (fun x hx => ⟨Nat.lt_of_lt_of_le (HS.out x hx) HB2.out.size, fun h => by
    have h1 := HS.out x hx
    have h2 := HAD.out
    rcases h with h | ⟨_, h, _⟩
    · omega
    · cases h⟩) hbx (shape_right f (okF_right f HOK.out)) HSZ.out)
  have hW2 := Lib.hid (show (w1.alloc (.map #[] 0)).heap.size = w1.heap.size + 1 from by simp)
  have HLEN := Lib.hid HF.out.len
  clear hO hE hM hbx hab hob her hfm
  go_wp2_with (go_at_call 45; (with_reducible refine HC.out.mono ?_); rintro eA wL ⟨a, n2, c2, xs, M1, rfl, ⟨hRX, hRN⟩, hV, hv⟩; have HV := Lib.hid hv; have HVF := Lib.hid hV; have HRX := Lib.hid (And.intro hRX hRN); clear hv hV hRX hRN)
  have hNN : ∀ q, q = ob ∨ q = er ∨ q = fm → ¬ NB [] w1.heap.size q := fun q hq h => by
    have := HAD.out
    rcases h with h | ⟨_, h, _⟩
    · omega
    · cases h
  have HOL := Lib.hid (HO.out.keep HV.out.kept (hNN ob (.inl rfl)))
  have HEL := Lib.hid (HE.out.keep HV.out.kept (hNN er (.inr (.inl rfl))))
  have HML := Lib.hid (HM.out.same (HV.out.kept.block fm HM.out.lt (hNN fm (.inr (.inr rfl)))))
  have HBL := Lib.hid (show Below w.heap.size w wL from HB2.out.trans (HV.out.kept.below (by have := HAD.out; have := hW2.out; omega) (fun x hx h => by
    have := HAD.out
    rcases h with h | ⟨_, h, _⟩
    · omega
    · cases h)))
  have hnf : n2 = f.len := by
    have h1 := HRX.out.1.1
    have h2 := HVF.out.len
    omega
  subst hnf
  have hl9 : f.len ≤ 100000 := by have := len_size f; have := HSZ.out; omega
  have hxlt : ∀ x, blockOf a = some x → w.heap.size + 3 ≤ x := fun x hx => by have := (HRX.out.1.lt x hx).1; have := HAD.out; have := hW2.out; omega
  have HXLT := Lib.hid hxlt
  have H0 := Lib.hid (show GrRel f xs fm ob wL (.int .i64 0) wL from ⟨0, none, 0, rfl, Nat.zero_le _, HML.out, HOL.out, Row.nil _ _ _, Kept.refl _ _, fun i hi => absurd hi (Nat.not_lt_zero i)⟩)
  clear hNN hxlt
  go_loopw [15] (fun t15 wr => GrRel f xs fm ob wL t15 wr) (fun t15 _ => f.len - (intOf t15).toNat)
  case atStart => exact H0.out
  case round =>
    obtain ⟨j, ao, co, rfl, hj, hMr, hOr, hRr, hK, hkeys⟩ := hrel
    have HMR := Lib.hid hMr
    have HOR := Lib.hid hOr
    have HRR := Lib.hid hRr
    have HK := Lib.hid hK
    have HKEYS := Lib.hid hkeys
    have o0 := hOr.cell 0 rfl
    have o1 := hOr.free 0 (by simp)
    clear H0 hMr hOr hRr hK hkeys
    by_cases hjn : (j : Int) < (f.len : Int)
    · have hjf : j < f.len := by omega
      obtain ⟨x, hx, hvx⟩ := HVF.out.at f j hjf
      have hone := hvx.one
      have HRXr := HRX.out.1.keep HK.out (fun b hb h => by have := HXLT.out b hb; have := HAD.out; omega)
      have hBx := HV.out.bx.keep HK.out (fun b hb h => by
        have had := HAD.out
        rcases hb with hb | ⟨p, hp, hb⟩
        · omega
        · rcases HV.out.fresh p hp with h9 | h9
          · cases h9
          · have := hW2.out; omega)
      obtain ⟨ba, oa, rfl, hltb, hcx⟩ := HRXr.rd.at1 hjf
      rw [hx] at hcx
      have hfl : f.len ≤ 9223372036854775807 := by omega
      have hoL : ∀ b, blockOf ao = some b → b ≠ ob ∧ b ≠ fm := fun b hb => by
        have h1 := (HRR.out.lt b hb).1
        have h2 := HV.out.kept.size
        have had := HAD.out
        have := hW2.out
        exact ⟨fun e => by omega, fun e => by omega⟩
      have HOLN := Lib.hid hoL
      have HJF := Lib.hid hjf
      have HX := Lib.hid hx
      have HBXR := Lib.hid hBx
      have HNX := Lib.hid (And.intro hj hfl)
      clear hvx HRXr hBx hltb hoL hfl hj
      by_cases hkey : keyD (f.toL.getD j Dt.zero) = true
      · have hk2 : ∀ i, i ≤ j → keyD (f.toL.getD i Dt.zero) = true := fun i hi => by
          by_cases e : i = j
          · rw [e]; exact hkey
          · exact HKEYS.out i (by omega)
        obtain ⟨p, hck, hp, hfind⟩ := find_entV HBXR.out HVF.out HOK.out HJF.out hk2 HX.out
        have hlk := HMR.out.lookup Tryd.underlying73 Tryd.underlying20 zeroInt hck hp
        rw [hfind] at hlk
        have HK2 := Lib.hid hk2
        clear hk2 hkey
        cases hfn : firstN f.toL j (f.toL.getD j Dt.zero) with
        | none =>
          rw [hfn] at hlk hfind
          replace hlk : (Instr.lookup 73 (.map (some fm)) x true).run Tryd.prog wr = .ok (.tuple #[.int .i64 0, .bool false]) wr := hlk
          obtain ⟨w5, hup, hM5, hg5⟩ := HMR.out.add Tryd.underlying73 Tryd.underlying20 hck hp hfind (.int .i64 (j : Nat))
          have hr5 : Row wL.heap.size w5 1 ao j co (outL f.toL j) := HRR.out.kept hg5 (.inl (fun e => by have := (HOLN.out fm e).2; exact this rfl))
          have ho5 : Blk w5 ob [.slice ao j co] := HOR.out.grown hg5 (fun e => by cases e; have := HAD.out; omega)
          have hk5 := HK.out.grown hg5 (fun b e _ => by cases e; exact .inl rfl)
          have HR5 := fun o => Lib.hid (hr5.alloc o)
          have HS5 := Lib.hid (Src.oneAt (P := Tryd.prog) (w := w5) (tx := 39) Tryd.underlying39 (.int .i64 (j : Nat)) 3 rfl (g := w5.heap.size) rfl)
          have HM5 := Lib.hid hM5
          have HO5 := Lib.hid ho5
          have HK5 := Lib.hid hk5
          have HFN := Lib.hid hfn
          have hle5 : wL.heap.size ≤ w5.heap.size := hk5.size
          have p0 := ho5.cell 0 rfl
          have p1 := ho5.free 0 (by simp)
          clear hck hp hfind hM5 hg5 hr5 ho5 hk5 hfn
          go_wp2_with (at_builtin; refine wpList_append_row rfl _ _ 39 39 rfl 3 i0 (.int .i64 0) 1 8 Tryd.underlying39 hi hy0 hy1 hy2 rfl rfl (HR5 _).out 1 _ HS5.out (by unfold maxLen; omega) (by omega) (by simp; omega) ?_; intro a4 c4 w4 hrow hgr hbk4; have HR4 := Lib.hid hrow; have HG4 := Lib.hid hgr; have HB4 := Lib.hid hbk4; have hO4 := (HO5.out.alloc (.cells #[.int .i64 (j : Nat)] 3)).grown hgr (fun e => (HOLN.out ob e).1 rfl); have q0 := hO4.cell 0 rfl; have q1 := hO4.free 0 (by simp); have HO4 := Lib.hid hO4; clear hrow hgr hbk4 hO4)
          go_roundw
          case rel =>
            have hen := entV_none HFN.out HX.out
            exact gr_next (by have := HAD.out; omega) (by have := HOL.out.1; omega) HJF.out (by rw [hen.2]; exact HM5.out) HR4.out (by rw [hen.1]) HG4.out HO4.out HOLN.out (fun b hb => (HRR.out.lt b hb).1) HK5.out HK2.out
          case measure => simp [intOf]; omega
        | some m =>
          rw [hfn] at hlk
          replace hlk : (Instr.lookup 73 (.map (some fm)) x true).run Tryd.prog wr = .ok (.tuple #[.int .i64 (m : Nat), .bool true]) wr := hlk
          have HR5 := fun o => Lib.hid (HRR.out.alloc o)
          have HS5 := Lib.hid (Src.oneAt (P := Tryd.prog) (w := wr) (tx := 39) Tryd.underlying39 (.int .i64 (m : Nat)) 3 rfl (g := wr.heap.size) rfl)
          have HFN := Lib.hid hfn
          have hle5 : wL.heap.size ≤ wr.heap.size := HK.out.size
          clear hck hp hfind hfn
          go_wp2_with (at_builtin; refine wpList_append_row rfl _ _ 39 39 rfl 3 i0 (.int .i64 0) 1 8 Tryd.underlying39 hi hy0 hy1 hy2 rfl rfl (HR5 _).out 1 _ HS5.out (by unfold maxLen; omega) (by omega) (by simp; omega) ?_; intro a4 c4 w4 hrow hgr hbk4; have HR4 := Lib.hid hrow; have HG4 := Lib.hid hgr; have HB4 := Lib.hid hbk4; have hO4 := (HOR.out.alloc (.cells #[.int .i64 (m : Nat)] 3)).grown hgr (fun e => (HOLN.out ob e).1 rfl); have q0 := hO4.cell 0 rfl; have q1 := hO4.free 0 (by simp); have HO4 := Lib.hid hO4; clear hrow hgr hbk4 hO4)
          go_roundw
          case rel =>
            have hen := entV_some (xs := xs) HFN.out
            exact gr_next (by have := HAD.out; omega) (by have := HOL.out.1; omega) HJF.out (by rw [hen.2]; exact HMR.out) HR4.out (by rw [hen.1]) HG4.out HO4.out HOLN.out (fun b hb => (HRR.out.lt b hb).1) HK.out HK2.out
          case measure => simp [intOf]; omega
      · have hkf : keyD (f.toL.getD j Dt.zero) = false := by simpa using hkey
        have HBAD := Lib.hid (keyF_not f j HJF.out hkf)
        obtain ⟨pu, pv, hlk⟩ := HMR.out.lookup_bad Tryd.underlying73 (bad_key (w := wr) HVF.out HOK.out HJF.out hkf HX.out)
        have hER := HEL.out.keep HK.out (fun h => by have := HAD.out; omega)
        have HER := Lib.hid hER
        clear hkey hkf hER
        go_wp2_with fail
        have hoe : ob ≠ er := by have := HAD.out; omega
        refine leaves_cons (f := 44) (args := #[.pointer (some ⟨ob, 0, none⟩), .pointer (some ⟨er, 0, none⟩)]) (by simp) (by simp [go_sem]) ?_
        refine (catch44_p pu pv [] (HOR.out.cell 0 rfl) (HOR.out.free 0 (by simp)) (HER.out.cell 0 rfl) (HER.out.free 0 (by simp)) hoe).mono ?_
        rintro e u' w'' ⟨rfl, rfl, rfl⟩
        refine ⟨_, g_res rfl rfl ((HOR.out.set (j := 0) (.slice none 0 0)).other (p := ⟨er, 0, none⟩) (.int .i64 11) (by show er ≠ ob; omega)) ((HER.out.other (p := ⟨ob, 0, none⟩) (.slice none 0 0) (by show ob ≠ er; omega)).set (j := 0) (.int .i64 11)), ?_⟩
        refine ⟨none, 0, 0, [], 11, rfl, Rd.nil _ _, ?_, .inr ⟨HBAD.out, rfl, rfl, rfl⟩⟩
        refine HBL.out.trans ?_
        exact (((HK.out.mono (N' := fun x => w.heap.size ≤ x) (fun x _ h => by have := HAD.out; show w.heap.size ≤ x; omega)).put (p := ⟨ob, 0, none⟩) _ (fun _ => by show w.heap.size ≤ ob; have := HAD.out; omega)).put (p := ⟨er, 0, none⟩) _ (fun _ => by show w.heap.size ≤ er; have := HAD.out; omega)).below HBL.out.size (fun x hx h => by have h' : w.heap.size ≤ x := h; omega)
    · have hjj : j = f.len := by omega
      subst hjj
      have hE := HEL.out.keep HK.out (fun h => by have := HAD.out; omega)
      have y0 := hE.cell 0 rfl
      have y1 := hE.free 0 (by simp)
      have hoe : ob ≠ er := by have := HAD.out; omega
      have heo : er ≠ ob := by have := HAD.out; omega
      have HER := Lib.hid hE
      clear hE
      go_wp2_with fail
      refine leaves_cons (f := 44) (args := #[.pointer (some ⟨ob, 0, none⟩), .pointer (some ⟨er, 0, none⟩)]) (by simp) (by simp [go_sem]) ?_
      refine (catch44_idle _ _ _).mono ?_
      rintro e u' w'' ⟨rfl, rfl, rfl⟩
      refine ⟨_, g_res rfl rfl ((HOR.out.set (j := 0) _).other (p := ⟨er, 0, none⟩) (.int .i64 0) (by show er ≠ ob; omega)) ((HER.out.other (p := ⟨ob, 0, none⟩) _ (by show ob ≠ er; omega)).set (j := 0) (.int .i64 0)), ?_⟩
      refine ⟨ao, f.len, co, outL f.toL f.len, 0, rfl, ?_, ?_, .inl ⟨keyF_all f HKEYS.out, rfl, rfl, rfl⟩⟩
      · exact ((HRR.out.put (p := ⟨ob, 0, none⟩) (by have := HOL.out.1; exact this) _).put (p := ⟨er, 0, none⟩) (by have := HEL.out.1; exact this) _).rd
      · refine HBL.out.trans ?_
        exact (((HK.out.mono (N' := fun x => w.heap.size ≤ x) (fun x _ h => by have := HAD.out; show w.heap.size ≤ x; omega)).put (p := ⟨ob, 0, none⟩) _ (fun _ => by show w.heap.size ≤ ob; have := HAD.out; omega)).put (p := ⟨er, 0, none⟩) _ (fun _ => by show w.heap.size ≤ er; have := HAD.out; omega)).below HBL.out.size (fun x hx h => by have h' : w.heap.size ≤ x := h; omega)
end Go.Proofs.YtofpdhkdnbnobaaDoor
