import Derived.Test.YtoninfccmonaiaaAskOpenR
import Derived.Test.YtoninfccmonaiaaAskAnsN
import Derived.Outline
namespace Go.Proofs.Ytoninfccmonaiaa
open Go.RowKit

def rB : ByteArray := { data := #[114] }

theorem awk1 (w : World) : Calls Try.prog 18 #[.agg #[.int .i64 0, .slice none 0 0], .string { data := #[114] }, .int .i64 5] w (StNum w 1 [(1, 5, rB)] 1 1 0) := by
  have := openN_room 0 [] none 0 0 rB 5 w (Rd.nil w 3) (by omega) (by omega) (by decide)
  simp only [Int.zero_add, Nat.zero_add, List.nil_append] at this
  exact this
theorem awk2 (w : World) (a : Option Addr) (cap : Nat) (h : Asks w a 1 cap [(1, 5, rB)]) : Calls Try.prog 21 #[.agg #[.int .i64 1, .slice a 1 cap], .int .i64 1, .string { data := #[114] }, .int .i64 5] w (StErr w 1 [] 0 0) := by
  have := ansN 1 [(1, 5, rB)] a 1 cap 1 rB 5 w h (by omega) (by simp [Keys])
  have h1 : [((1 : Int), (5 : Int), rB)].filter (keepB 1 rB) = [] := by simp [keepB]
  have h2 : errF 1 rB 5 230 [(1, 5, rB)] = 0 := by simp [errF, keepB, lateB]
  rw [h1, h2] at this
  exact this
theorem awk3 (w : World) (a : Option Addr) (cap : Nat) (h : Asks w a 0 cap []) : Calls Try.prog 21 #[.agg #[.int .i64 1, .slice a 0 cap], .int .i64 1, .string { data := #[114] }, .int .i64 5] w (StErr w 1 [] 0 230) := by
  have := ansN 1 [] a 0 cap 1 rB 5 w h (by omega) (by simp [Keys])
  exact this

set_option maxHeartbeats 4000000 in
theorem awakeA (w : World) : Calls Try.prog 16 #[] w (RV w (.bool true)) := by
  go_enter Try.func16, Try.ntmps16
  go_wp2_with fail
  refine (awk1 _).mono ?_
  rintro e w1 ⟨a1, c1, rfl, hr1, hb1⟩
  have HB1 := Lib.hid (hb1.alloc hb1.size (Obj.cells #[Value.int .i64 1, Value.slice a1 1 c1] 37))
  have HR1 := Lib.hid hr1
  clear hr1
  have HS := Lib.hid hb1.size; clear hb1
  go_wp2_with fail
  refine (awk2 _ _ _ (HR1.out.alloc _).rd).mono ?_
  rintro e w2 ⟨a2, c2, rfl, hr2, hb2⟩
  have HB2 := Lib.hid hb2
  have HR2 := Lib.hid hr2
  have hs2 := hb2.size
  simp only [World.size_alloc] at hs2
  have hT := (Two.new w1 (.int .i64 1) (.slice a1 1 c1) 37).later hb2
  have HT := Lib.hid hT
  obtain ⟨q0, q1, q2, q3⟩ := hT
  clear hr2 hb2
  go_wp2_with fail
  refine (awk3 _ a2 c2 ?_).mono ?_
  · exact ((HR2.out.put (p := ⟨w1.heap.size, 0, none⟩) (by simp) _).put (p := ⟨w1.heap.size, 1, none⟩) (by simp) _).rd
  rintro e w3 ⟨a3, c3, rfl, hr3, hb3⟩
  go_wp2
  go_ret
  refine ⟨rfl, ?_⟩
  have hs := HS.out
  have h2 : Below w.heap.size w w2 := HB1.out.trans (HB2.out.mono (by simp; omega))
  have hs3 := hb3.size
  simp only [World.size_setCell] at hs3
  exact (((h2.setCell (p := ⟨w1.heap.size, 0, none⟩) (by simp; omega) _).setCell (p := ⟨w1.heap.size, 1, none⟩) (by simp; omega) _).trans (hb3.mono (by simp; omega))).alloc (by omega) _
end Go.Proofs.Ytoninfccmonaiaa
