/-
  From the reading of an argument to the words of the walks: a slice of integers reads as a row of cells. Not a statement of the seat.
-/
import Derived.Test.YtoninfccmonaiaaSlices
import Derived.ProofKit
import Derived.OpenShut
import Derived.ChangeOld
namespace Go.Proofs.Ytoninfccmonaiaa
open Go.RowKit Go.ChangeShapes Go.WideShapes

theorem rd_of_ints {W : World} {k : IntKind} {a : Addr} {len cap : Nat} {zs : List Int} (hl : len ≤ cap) (hm : cap ≤ maxLen) (hz : zs.length = cap)
    (hcell : ∀ i, i < zs.length → W.cell? (a.add i) = some (.int k (zs.getD i 0))) : Rd W 1 (some a) len cap ((zs.take len).map (Value.int k)) := by
  refine ⟨by simp; omega, hl, hm, ?_⟩
  by_cases h0 : len = 0
  · exact .inl ⟨h0, fun h => by cases h⟩
  · obtain ⟨b, off, spot⟩ := a
    have hc := hcell 0 (by omega)
    have hspot : spot = none := by simpa [Addr.add] using World.cell?_spot hc
    subst hspot
    refine .inr ⟨b, off, rfl, ?_, fun j hj => ?_⟩
    · exact World.block_lt_of_cell? W ⟨b, off, none⟩ (by simpa [Addr.add] using hc)
    · simp only [List.length_map, List.length_take] at hj
      have h1 := hcell j (by omega)
      rw [Addr.add_lit] at h1
      rw [h1]
      have h2 : j < zs.length := by omega
      have h3 : j < len := by omega
      simp [h3, h2]

/-- A slice of integers, by its reading (of the mode in which arguments are read). -/
theorem open_rd {H : Type} {enc : TypeId × Value → H} {P : Program} {W : World} {t e : TypeId} {k : IntKind} {fuel : Nat} {c : Value} {x : DataW H × List MemPlace} (ht : P.underlying t = some (.slice e)) (he : P.underlying e = some (.int k)) (hc : P.cellsOf e = 1)
    (h : DataW.trod enc P W 0 (fun _ => true) true fuel t [c] = some x) :
    ∃ a len cap zs, c = .slice a len cap ∧ Rd W 1 a len cap (List.map (Value.int k) zs) ∧ ∀ n ∈ zs, (Lit.int k n).wf = true := by
  rcases open_ints ht he hc h with ⟨hcs, _⟩ | ⟨x, l, cp, zs, hcs, _, hl, hm, hz, _, hcell, hwz⟩
  · exact ⟨none, 0, 0, [], by simpa using hcs, Rd.nil _ _, fun _ h => by cases h⟩
  · exact ⟨some x, l, cp, zs.take l, by simpa using hcs, rd_of_ints hl hm (by simpa using hz) hcell, fun n hn => hwz n (List.mem_of_mem_take hn)⟩

end Go.Proofs.Ytoninfccmonaiaa
