/-
  An error as an argument: its numbers are numbers of their widths, all through. Not a statement of the seat.
-/
import Derived.Test.YtbldidiibkcelaaGreatDoorTELaid
import Derived.Test.YtbldidiibkcelaaGreatDoorTETxN
namespace Go.Proofs.YtbldidiibkcelaaGreatDoor
open Go.RowKit

theorem plain_rng : ∀ f : Fo, foRng f → f.plain
  | .nil, _ => trivial
  | .cons _ _ _ _ k r, h => ⟨h.1, plain_rng k h.2.1, plain_rng r h.2.2⟩
def EElOKT (W : World) (x : EEl) : Prop := EElOK W x ∧ erng1 x.et
theorem erng_of : ∀ l : List EEl, (∀ x ∈ l, erng1 x.et) → erng (eoOf l)
  | [], _ => trivial
  | x :: r, h => ⟨(h x (by simp)).1, (h x (by simp)).2.1, (h x (by simp)).2.2, erng_of r (fun y hy => h y (by simp [hy]))⟩
set_option maxRecDepth 100000 in
theorem open_eelT {H : Type} {enc : TypeId × Value → H} {W : World} : ∀ (n : Nat) {cs : List Value} {y : DataW H × List MemPlace}, DataW.trod enc Tryz.prog W 0 (fun _ => true) true n 29 cs = some y → inReach 29 y.1 → ∃ x : EEl, cs = x.cells ∧ EElOKT W x := by
  intro n
  induction n using Nat.strongRecOn with
  | _ n ih =>
    intro cs y h hR
    obtain ⟨xs, m, hfu, hy, hl, hlen, hf⟩ := DataW.trod_struct Tryz.underlying29 h
    rw [co29] at hl
    rw [hy] at hR
    match cs, hl with
    | [c0, c1, c2, c3, c4, c5, c6, c7, c8, c9, c10], _ =>
      match xs, hlen with
      | [y0, y1, y2, y3, y4, y5, y6], _ =>
        have hR5 : inReach 26 y5.1 ∧ inReach 27 y6.1 := by
          unfold inReach at hR ⊢
          rw [DataW.weights, Tryz.underlying29] at hR
          simp only [List.map_cons, List.map_nil, DataW.weightsEach, List.all_append, Bool.and_eq_true] at hR
          exact ⟨hR.2.2.2.2.2.1, hR.2.2.2.2.2.2.1⟩
        have h0 := hf 0 _ rfl
        have h1 := hf 1 _ rfl
        have h2 := hf 2 _ rfl
        have h3 := hf 3 _ rfl
        have h4 := hf 4 _ rfl
        have h5 := hf 5 _ rfl
        have h6 := hf 6 _ rfl
        rw [show Tryz.prog.cellsOf (Field.type _) = 1 from co3] at h0
        rw [show Tryz.prog.cellsOf (Field.type _) = 1 from co2] at h1
        rw [show Tryz.prog.cellsOf (Field.type _) = 1 from co2] at h2
        rw [show Tryz.prog.cellsOf (Field.type _) = 1 from co9] at h3
        rw [show Tryz.prog.cellsOf (Field.type _) = 5 from co25] at h4
        rw [show Tryz.prog.cellsOf (Field.type _) = 1 from co26] at h5
        rw [show Tryz.prog.cellsOf (Field.type _) = 1 from co27] at h6
        obtain ⟨z0, e0, _, _⟩ := DataW.trod_int Tryz.underlying3 (x := y0) h0
        obtain ⟨z1, e1, _, _⟩ := DataW.trod_int Tryz.underlying2 (x := y1) h1
        obtain ⟨z2, e2, _, _⟩ := DataW.trod_int Tryz.underlying2 (x := y2) h2
        obtain ⟨s, e3, _, _⟩ := DataW.trod_string Tryz.underlying9 (x := y3) h3
        obtain ⟨d, e4, hd⟩ := open_el (cs := [c4, c5, c6, c7, c8]) (y := y4) m h4
        obtain ⟨ca, clen, ccap, ci, e5, hr5, hq5, hw5⟩ := open_rowsG (c := c9) (x := y5) (fun x => [Value.int .i64 x]) (fun x => -9223372036854775808 ≤ x ∧ x ≤ 9223372036854775807) 1 (fun _ => rfl) (by omega) Tryz.underlying26 co2 hR5.1 (fun n' cs' y' _ h' _ => by
          obtain ⟨z, ez, _, rz⟩ := DataW.trod_int Tryz.underlying2 h'
          exact ⟨z, ez, bounds_i64 rz⟩) h5
        obtain ⟨a, len, cap, l, e6, hr, hq, _⟩ := open_rowsG (c := c10) (x := y6) EEl.cells (EElOKT W) 11 (fun _ => rfl) (by omega) Tryz.underlying27 co29 hR5.2 (fun n' cs' y' hn' h' hR' => ih n' (by omega) h' hR') h6
        have e0' : [c0] = [Value.int .i64 z0] := e0
        have e1' : [c1] = [Value.int .i64 z1] := e1
        have e2' : [c2] = [Value.int .i64 z2] := e2
        have e3' : [c3] = [Value.string s] := e3
        have e4' : [c4, c5, c6, c7, c8] = [Value.int .i64 d.k, .int .i64 d.i, .int .u64 d.b, .string ⟨d.t.toArray⟩, .slice d.l d.n d.c] := e4
        simp only [List.cons.injEq, and_true] at e0' e1' e2' e3' e4'
        obtain ⟨e40, e41, e42, e43, e44⟩ := e4'
        rw [flatMap_I8] at hr5
        rw [by2] at hw5
        refine ⟨⟨z0, z1, z2, s.data.toList, d, ci, ca, clen, ccap, eoOf l, a, len, cap⟩, ?_, ⟨⟨hd.1, ⟨hr5, hr5.ltb⟩, ⟨_, ⟨hr, hr.ltb⟩, EAt_of l (fun y hy => (hq y hy).1)⟩⟩, by have : reachBytes = 140737488351232 := rfl; show ci.length ≤ _; omega, small_of l (fun y hy => (hq y hy).1), ⟨hd.2.1, hd.2.2, trivial⟩⟩, plain_rng _ ⟨hd.2.1, hd.2.2, trivial⟩, hq5, erng_of l (fun y hy => (hq y hy).2)⟩
        rw [e0', e1', e2', e3', e40, e41, e42, e43, e44, e5, e6]
        show _ = [Value.int .i64 z0, .int .i64 z1, .int .i64 z2, .string ⟨s.data.toList.toArray⟩, .int .i64 d.k, .int .i64 d.i, .int .u64 d.b, .string ⟨d.t.toArray⟩, .slice d.l d.n d.c, .slice ca clen ccap, .slice a len cap]
        rw [Lib.mk_data]
theorem open_errT {H : Type} {enc : TypeId × Value → H} {W : World} {cs : Array Value} {fuel : Nat} {y : DataW H × List MemPlace} (hsz : cs.size = Tryz.prog.cellsOf 29)
    (h : DataW.trod enc Tryz.prog W 0 (fun _ => true) true fuel 29 (Value.agg cs).cells.toList = some y) (hR : inReach 29 y.1) :
    ∃ (e : Et) (bl : Option Addr) (bn bc : Nat) (cl : Option Addr) (cn cc : Nat) (l : Option Addr) (n cap : Nat), Value.agg cs = vE e.k e.i e.c e.t e.b bl bn bc cl cn cc l n cap ∧
      ErAt (fun b => b < W.heap.size) W e bl bn bc cl cn cc l n cap ∧ e.cs.length ≤ 140737488355328 ∧ e.l.small ∧ erng1 e := by
  rw [co29] at hsz
  obtain ⟨c0, c1, c2, c3, c4, c5, c6, c7, c8, c9, c10, rfl⟩ := array11 hsz
  obtain ⟨x, e, hx⟩ := open_eelT fuel h hR
  refine ⟨x.et, x.b.l, x.b.n, x.b.c, x.cl, x.cn, x.cc, x.l, x.n, x.cap, ?_, hx.1.1, hx.1.2.1, hx.1.2.2.1, hx.2⟩
  have e' : [c0, c1, c2, c3, c4, c5, c6, c7, c8, c9, c10] = x.cells := e
  show Value.agg ([c0, c1, c2, c3, c4, c5, c6, c7, c8, c9, c10] : List Value).toArray = Value.agg x.cells.toArray
  rw [e']
end Go.Proofs.YtbldidiibkcelaaGreatDoor

