/-
  Towards the Dedup statements: 'awake' answers true; a region that draws its order and whose callees make memory is walked once; what comes out of Seen is fit and knows the number. Not a statement of the seat.
-/
import Derived.Test.YtoninfccmonaiaaRefSeen
namespace Go.Proofs.Ytoninfccmonaiaa
open Go.RowKit

theorem SeenPost.out {w : World} {zs : List Int} {size id : Int} {e : Ending} {w' : World} (h : SeenPost w zs size id e w') : Out w (seenL zs size id) (memB zs id) e w' := h

theorem aw1 : memB [] 5 = false := by decide
theorem aw2 : seenL [] 2 5 = [5] := by decide
theorem aw3 : memB [5] 5 = true := by decide
theorem aw4 : memB [5] 6 = false := by decide

/-- hands back the ints L (n of them) in new memory, and b -/
def To (w : World) (L : List Int) (n : Nat) (b : Bool) (e : Ending) (w' : World) : Prop :=
  ∃ a cap, e = .returned (.tuple #[.agg #[.slice a n cap], .bool b]) ∧ Row w.heap.size w' 1 a n cap (I64 L) ∧ Below w.heap.size w w'

theorem seen_to {zs L : List Int} {size id : Int} {a : Option Addr} {n m cap : Nat} {b : Bool} {w : World} (hz : Ints w a n cap zs) (hn : n ≤ 1000000) (hpos : 1 ≤ size) (hL : seenL zs size id = L) (hm : L.length = m) (hb : memB zs id = b) :
    Calls Try.prog 10 #[.agg #[.slice a n cap], .int .i64 size, .int .i64 id] w (To w L m b) := by
  refine (seen zs size id a n cap w hz hn hpos).mono ?_
  rintro e w' ⟨a', c', he, hr, hb'⟩
  subst hL hm hb
  exact ⟨a', c', he, hr, hb'⟩

theorem refSeen_to {zs L : List Int} {size id : Int} {a : Option Addr} {n m cap : Nat} {b : Bool} {w : World} (hz : Ints w a n cap zs) (hn : n ≤ 1000000) (hL : refL zs size id = L) (hm : L.length = m) (hb : memB zs id = b) :
    Calls Try.prog 11 #[.agg #[.slice a n cap], .int .i64 size, .int .i64 id] w (To w L m b) := by
  refine (refSeen zs size id a n cap w hz hn).mono ?_
  rintro e w' ⟨a', c', he, hr, hb'⟩
  subst hL hm hb
  exact ⟨a', c', he, hr, hb'⟩

theorem knows_to {zs : List Int} {id : Int} {a : Option Addr} {n cap : Nat} {b : Bool} {w : World} (hz : Ints w a n cap zs) (hb : memB zs id = b) :
    Calls Try.prog 13 #[.agg #[.slice a n cap], .int .i64 id] w (RB w (.bool b)) := by
  subst hb
  exact knows zs id a n cap w hz

set_option maxHeartbeats 1000000 in
theorem awake (w : World) : Calls Try.prog 9 #[] w (RB w (.bool true)) := by
  go_enter Try.func9, Try.ntmps9
  go_wp2_with fail
  refine (seen_to (show Ints _ none 0 0 [] from Rd.nil _ _) (by omega) (by omega) aw2 (m := 1) rfl aw1).mono ?_
  rintro e w1 ⟨a1, c1, rfl, hr1, hb1⟩
  have HR1 := Lib.hid hr1; clear hr1
  have HB1 := Lib.hid hb1; clear hb1
  go_wp2_with fail
  refine (seen_to (L := [5]) (m := 1) (HR1.out.rd.alloc _) (by omega) (by omega) rfl rfl aw3).mono ?_
  rintro e w2 ⟨a2, c2, rfl, hr2, hb2⟩
  have hc2 := cellAt hb2 (b := w1.heap.size) (o := 0) (v := .slice a1 1 c1) (by simp)
  have HR2 := Lib.hid hr2; clear hr2
  have HB2 := Lib.hid hb2; clear hb2
  have hc3 := cellNew (Obj.cells #[Value.slice a2 1 c2] 24) hc2
  go_wp2_with fail
  have hi1 : Ints (w2.alloc (Obj.cells #[Value.slice a2 1 c2] 24)) a1 1 c1 [5] := ((HR1.out.rd.alloc _).below HB2.out).alloc _
  have HI1 := Lib.hid hi1; clear hi1
  refine (knows_to HI1.out aw3).mono ?_
  rintro e w3 ⟨rfl, hb3⟩
  have hc4 := cellAt hb3 hc3
  have HB3 := Lib.hid hb3; clear hb3 hc2 hc3
  go_wp2_with fail
  refine (knows_to (HI1.out.below HB3.out) aw4).mono ?_
  rintro e w4 ⟨rfl, hb4⟩
  have HB4 := Lib.hid hb4; clear hb4 hc4
  go_wp2
  go_ret
  have s1 := HB1.out.size
  have s2 := HB2.out.size
  have s3 := HB3.out.size
  simp only [World.size_alloc] at s2 s3
  exact ⟨rfl, ((HB1.out.alloc (by omega) _).trans (HB2.out.mono (by simp; omega))).alloc (by omega) _ |>.trans ((HB3.out.mono (by simp; omega)).trans (HB4.out.mono (by omega)))⟩
/-- a world that has grown out of w: nothing that lay has turned (a structure of its own, so that simp does not take it apart) -/
structure Grew (w : World) where
  val : World
  below : Below w.heap.size w val

instance (w : World) : Nonempty (Grew w) := ⟨⟨w, Below.refl _ _⟩⟩

theorem Grew.cell {w : World} {b o : Nat} {v : Value} (h : w.cell? ⟨b, o, none⟩ = some v) : ∀ x : Grew w, x.val.cell? ⟨b, o, none⟩ = some v := fun x => cellAt x.below h

/-- a region that draws its order and whose callees only make memory: one walk serves every order -/
theorem wp_region_grew {P : Program} {id : Nat} {Q : Exit → Act → World → Prop} {a : Act} {w : World} {l : List Oper} (hm : P.follows .mixedOrders = true) (hB : Region.lexB .any l.toArray = true)
    (h : wpQuiet P l.toArray (fun w' => ∃ x : Grew w, w' = x.val) (fun a' => ∀ w', (∃ x : Grew w, w' = x.val) → Q .normal a' w') l a) : (Code.region id l.toArray true).wp P Q a w :=
  wp_region_quiet (C := fun w' => ∃ x : Grew w, w' = x.val) hm hB ⟨⟨w.drew, (Below.refl _ _).drew⟩, rfl⟩ (by simpa using h)

/-- a callee's contract, met in such a world -/
theorem grew_call {P : Program} {f : FuncId} {args : Array Value} {w : World} {x : Grew w} {v : Value} (h : Calls P f args x.val (RB x.val v)) :
    Calls P f args x.val fun e w'' => e = .returned v ∧ ∃ y : Grew w, w'' = y.val :=
  h.mono fun _ w'' ⟨he, hb⟩ => ⟨he, ⟨w'', x.below.trans (hb.mono x.below.size)⟩, rfl⟩

theorem drop_apart {zs : List Int} (h : apartTo zs zs.length) : apartTo (zs.drop 1) (zs.drop 1).length := by
  intro j hj k hk
  simp only [List.length_drop] at hj
  have := h (j + 1) (by omega) (k + 1) (by omega)
  simpa [List.getElem?_drop, Nat.add_comm] using this
theorem snoc_apart {zs : List Int} {id : Int} (h : apartTo zs zs.length) (hn : ¬ id ∈ zs) : apartTo (zs ++ [id]) (zs ++ [id]).length := by
  intro j hj k hk
  simp only [List.length_append, List.length_singleton] at hj
  by_cases e : j = zs.length
  · subst e
    rw [List.getElem?_append_left hk, List.getElem?_append_right (Nat.le_refl _)]
    simp only [Nat.sub_self, List.getElem?_cons_zero, Option.getD_some]
    intro e2
    apply hn
    rw [← e2]
    simp [hk]
  · rw [List.getElem?_append_left (by omega), List.getElem?_append_left (by omega)]
    exact h j (by omega) k hk
/-- P15.3: what comes out is fit, and knows id -/
theorem seenL_fit {zs : List Int} {size id : Int} (h : FitP zs size) : FitP (seenL zs size id) size := by
  obtain ⟨h1, h2, h3, h4⟩ := h
  unfold seenL
  by_cases hm : memB zs id = true
  · rw [if_pos hm]; exact ⟨h1, h2, h3, h4⟩
  · rw [if_neg hm]
    have hn : ¬ id ∈ zs := fun h => hm (memB_iff.2 h)
    by_cases hf : (zs.length : Int) = size
    · rw [if_pos hf]
      refine ⟨h1, h2, ?_, snoc_apart (drop_apart h4) (fun h => hn (List.mem_of_mem_drop h))⟩
      simp only [List.length_append, List.length_drop, List.length_singleton]; omega
    · rw [if_neg hf]
      refine ⟨h1, h2, ?_, snoc_apart h4 hn⟩
      simp only [List.length_append, List.length_singleton]; omega
theorem seenL_knows {zs : List Int} {size id : Int} : memB (seenL zs size id) id = true := by
  unfold seenL
  by_cases hm : memB zs id = true
  · rw [if_pos hm]; exact hm
  · rw [if_neg hm]; exact memB_iff.2 (by simp)
end Go.Proofs.Ytoninfccmonaiaa
