/-
  value: the doors (walks). Not a statement of the seat.
-/
import Derived.Test.YtofpdhkdnbnobaaDoorRow
import Derived.Defers
namespace Go.Proofs.YtofpdhkdnbnobaaDoor
open Go.RowKit

/-- the deferred 'r.deep--' -/
theorem decDef {pb rb a d deep : Nat} {S : ByteArray} {bad : Bool} (u : FrameMode) {w : World} (hp : w.cell? ⟨pb, 0, none⟩ = some (.pointer (some ⟨rb, 0, none⟩))) (h : Rdr w rb S a d bad) (hd : d = deep + 1) (h16 : deep ≤ 16) :
    CallsD Tryd.prog 62 #[.pointer (some ⟨pb, 0, none⟩)] u w fun e u' w' => u' = u ∧ (e = .returned (.tuple #[]) ∧ w' = w.setCell ⟨rb, 2, none⟩ (.int .i64 (deep : Nat))) := by
  have c2 := h.cell 2 rfl
  have f2 := h.free 2 (by simp)
  have hi : (d : Int) - 1 = (deep : Int) := by omega
  clear h
  go_enter_d Tryd.func62, Tryd.ntmps62
  go_wp2_with fail
  go_end0
  exact ⟨rfl, rfl⟩

/-- the box of the pointer, and the box of the result -/
def bx (w : World) (rb : Nat) : World := (w.alloc (.cells #[.pointer (some ⟨rb, 0, none⟩)] 58)).alloc (.cells #[.int .i64 0, .int .i64 0, .int .u64 0, .string ⟨#[]⟩, .slice none 0 0] 25)
structure Bx (w wx : World) (rb : Nat) (vs : List Value) : Prop where
  ptr : Blk wx w.heap.size [.pointer (some ⟨rb, 0, none⟩)]
  out : Blk wx (w.heap.size + 1) vs
  kept : Kept (N1 rb) w wx
theorem Bx.new (w : World) (rb : Nat) : Bx w (bx w rb) rb (V5 0 0 0 ⟨#[]⟩ none 0 0) :=
  ⟨(Blk.new w _ _).alloc _, by simpa [bx, V5] using Blk.new (w.alloc (.cells #[.pointer (some ⟨rb, 0, none⟩)] 58)) #[.int .i64 0, .int .i64 0, .int .u64 0, .string ⟨#[]⟩, .slice none 0 0] 25, ((Kept.refl _ _).alloc _).alloc _⟩
theorem Bx.keep {w wx wy : World} {rb : Nat} {vs : List Value} (h : Bx w wx rb vs) (g : Kept (N1 rb) wx wy) (hrb : rb < w.heap.size) : Bx w wy rb vs :=
  ⟨h.ptr.keep g (by unfold N1; omega), h.out.keep g (by unfold N1; omega), h.kept.trans g⟩

/-- a struct of five fields is stored -/
def st5 (w : World) (b : Nat) (v0 v1 v2 v3 v4 : Value) : World :=
  ((((w.setCell ⟨b, 0, none⟩ v0).setCell ⟨b, 1, none⟩ v1).setCell ⟨b, 2, none⟩ v2).setCell ⟨b, 3, none⟩ v3).setCell ⟨b, 4, none⟩ v4
theorem st5_blk {w : World} {b : Nat} {u0 u1 u2 u3 u4 : Value} (h : Blk w b [u0, u1, u2, u3, u4]) (v0 v1 v2 v3 v4 : Value) : Blk (st5 w b v0 v1 v2 v3 v4) b [v0, v1, v2, v3, v4] := by
  have := ((((h.set (j := 0) v0).set (j := 1) v1).set (j := 2) v2).set (j := 3) v3).set (j := 4) v4
  simpa [st5] using this
theorem st5_kept {w : World} {b : Nat} (v0 v1 v2 v3 v4 : Value) : Kept (N1 b) w (st5 w b v0 v1 v2 v3 v4) :=
  (((((Kept.refl (N1 b) w).put (p := ⟨b, 0, none⟩) v0 (fun _ => rfl)).put (p := ⟨b, 1, none⟩) v1 (fun _ => rfl)).put (p := ⟨b, 2, none⟩) v2 (fun _ => rfl)).put (p := ⟨b, 3, none⟩) v3 (fun _ => rfl)).put (p := ⟨b, 4, none⟩) v4 (fun _ => rfl)
theorem Kept.over {N : Nat → Prop} {w wx wy : World} {b : Nat} (h : Kept N w wx) (g : Kept (N1 b) wx wy) (hb : w.heap.size ≤ b) : Kept N w wy :=
  h.tail g (fun x hx e => by unfold N1 at e; omega)

/-- the result is read out of its box -/
theorem v_res {tmps : Array Value} {w : World} {db : Nat} {v0 v1 v2 v3 v4 : Value} (ht : tmps.getD 2 undef = .pointer (some ⟨db, 0, none⟩)) (h : Blk w db [v0, v1, v2, v3, v4]) :
    (results Tryd.f36 tmps).run Tryd.prog w = .ok (.agg #[v0, v1, v2, v3, v4]) w := by
  have c0 := h.cell 0 rfl
  have c1 := h.cell 1 rfl
  have c2 := h.cell 2 rfl
  have c3 := h.cell 3 rfl
  have c4 := h.cell 4 rfl
  have ht' : tmps[2]?.getD undef = .pointer (some ⟨db, 0, none⟩) := by simpa using ht
  simp [results, Tryd.results36, go_sem, ht', c0, c1, c2, c3, c4]
theorem v_early {tmps : Array Value} {w : World} {db : Nat} {v0 v1 v2 v3 v4 : Value} {R : Ending → World → Prop} (ht : tmps.getD 2 undef = .pointer (some ⟨db, 0, none⟩)) (h : Blk w db [v0, v1, v2, v3, v4])
    (hR : R (.returned (.agg #[v0, v1, v2, v3, v4])) w) : bodyPostD Tryd.prog Tryd.f36 R Exit.ret { tmps := tmps, defers := [] } w :=
  ⟨_, v_res ht h, hR⟩
/-- .. behind the deferred call -/
theorem v_late {tmps : Array Value} {w : World} {pb db rb b d deep : Nat} {S : ByteArray} {bad : Bool} {v0 v1 v2 v3 v4 : Value} {R : Ending → World → Prop} (ht : tmps.getD 2 undef = .pointer (some ⟨db, 0, none⟩))
    (hp : w.cell? ⟨pb, 0, none⟩ = some (.pointer (some ⟨rb, 0, none⟩))) (h : Rdr w rb S b d bad) (hd : d = deep + 1) (h16 : deep ≤ 16) (ho : Blk (w.setCell ⟨rb, 2, none⟩ (.int .i64 (deep : Nat))) db [v0, v1, v2, v3, v4])
    (hR : R (.returned (.agg #[v0, v1, v2, v3, v4])) (w.setCell ⟨rb, 2, none⟩ (.int .i64 (deep : Nat)))) :
    bodyPostD Tryd.prog Tryd.f36 R Exit.ret { tmps := tmps, defers := [{ target := .fn (.func 62) #[.pointer (some ⟨pb, 0, none⟩)], args := #[] }] } w := by
  refine leaves_cons (f := 62) (args := #[.pointer (some ⟨pb, 0, none⟩)]) (by simp) (by simp [go_sem]) ?_
  refine (decDef .returning hp h hd h16).mono ?_
  rintro e u' w'' ⟨rfl, rfl, rfl⟩
  exact ⟨_, v_res ht ho, hR⟩

set_option maxRecDepth 100000 in
theorem valueB {S : ByteArray} : VBOK S := by
  intro rb a deep w h ha
  have hrb := h.lt
  have HB := Lib.hid (Bx.new w rb)
  have HR := Lib.hid (show Rdr (bx w rb) rb S a deep true from (Blk.alloc (Blk.alloc h _) _))
  go_enter_defers Tryd.func36, Tryd.ntmps36
  go_upto_region 1 with (fail)
  change Code.wp _ _ _ _ (bx w rb)
  generalize bx w rb = w0 at *
  have c2 := HR.out.cell 2 rfl
  have c3 := HR.out.cell 3 rfl
  have f3 := HR.out.free 3 (by simp)
  have cp := HB.out.ptr.cell 0 rfl
  have hob := HB.out.out
  have o0 := hob.cell 0 rfl; have o1 := hob.cell 1 rfl; have o2 := hob.cell 2 rfl; have o3 := hob.cell 3 rfl; have o4 := hob.cell 4 rfl
  have p0 := hob.free 0 (by simp [V5]); have p1 := hob.free 1 (by simp [V5]); have p2 := hob.free 2 (by simp [V5]); have p3 := hob.free 3 (by simp [V5]); have p4 := hob.free 4 (by simp [V5])
  clear hob h
  by_cases hd : deep = 16
  · have hdi : ((deep : Int) == 16) = true := by simp [hd]
    clear hd
    go_wp2_with fail
    obtain ⟨h1, k1⟩ := rdr_bad HR.out
    have hB1 := HB.out.keep k1 hrb
    refine v_early rfl (st5_blk hB1.out _ _ _ _ _) ⟨rfl, ?_, ?_⟩
    · exact Blk.keep h1 (st5_kept _ _ _ _ _) (by unfold N1; omega)
    · exact hB1.kept.over (st5_kept _ _ _ _ _) (by omega)
  · have hdi : ((deep : Int) == 16) = false := by simp; omega
    clear hd
    go_wp2_with fail
    refine v_early rfl (st5_blk HB.out.out _ _ _ _ _) ⟨rfl, ?_, ?_⟩
    · exact Blk.keep HR.out (st5_kept _ _ _ _ _) (by unfold N1; omega)
    · exact HB.out.kept.over (st5_kept _ _ _ _ _) (by omega)
end Go.Proofs.YtofpdhkdnbnobaaDoor
