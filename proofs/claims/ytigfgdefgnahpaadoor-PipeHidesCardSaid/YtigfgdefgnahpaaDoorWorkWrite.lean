/-
  The walk of Work's write (the document's). Not a statement of the seat.
-/
import Derived.Test.YtigfgdefgnahpaaDoorSunk
namespace Go.Proofs.YtigfgdefgnahpaaDoor
open Go.RowKit

def WrtW (wb : Nat) (x : Wk) (l : List Wr) (s : Sc) (k : List Int) (t : Tank) (bs : Bytes) (w : World) (r : Own) (w' : World) : Prop :=
  ∃ r', Step (fun j => j = 4 ∨ j = 5) w r w' r' ∧ WorkAt w' r' wb x l s (sunkM x.qs (t.said bs.length) k) (t.put bs)

/-- another tank -/
theorem WorkAt.tank {wb : Nat} {x : Wk} {l : List Wr} {s : Sc} {k : List Int} {t : Tank} {w w' : World} {r r' : Own} (h : WorkAt w r wb x l s k t) (g : Step (· = 5) w r w' r') (bs : Bytes) (hT : TankAt w' r' 5 x.tb (t.put bs) x.rd x.bk) : WorkAt w' r' wb x l s k (t.put bs) := by
  obtain ⟨hwb, hB, hd, hZ, hP, hQ, hR1, hR2, hR3, hR4, _, hS, hO⟩ := h
  refine ⟨g.oldK hB.lt hwb, hB.step g hwb (by omega), hd, hZ.step g (fun _ h => by cases h), hP.step g, hQ.step g, hR1.step g (by omega), hR2.step g (by omega), hR3.step g (by omega), hR4.step g (by omega), hT, fun j tk hj => ?_, hO⟩
  obtain ⟨rdj, bkj, hTj⟩ := hS j tk hj
  exact ⟨rdj, bkj, hTj.step g (by omega)⟩

set_option maxRecDepth 100000 in
set_option maxHeartbeats 1000000 in
theorem workWriteR {wb : Nat} {x : Wk} {l : List Wr} {s : Sc} {k : List Int} {t : Tank} {pa : Option Addr} {pn pc : Nat} {bs : Bytes} {w : World} {r : Own} (hW : WorkAt w r wb x l s k t) (hok : t.ok) (hP : RdK w r none 1 pa pn pc (B8 bs))
    (hlen : t.has.length + bs.length ≤ 500000) (htk : t.k < 100000000000) (hk : ∀ c ∈ k, 0 ≤ c ∧ c ≤ 1000000) (hbnd : Bnd w r) {said : Nat} {v : Int} (hsaid : t.said bs.length = said) (hv : (if t.full bs.length then 362 else 0) = v) :
    Calls Tryd.prog 50 #[.pointer (some ⟨wb, 0, none⟩), .slice pa pn pc] w (PostV (.tuple #[.int .i64 said, .int .i64 v]) (WrtW wb x l s k t bs w r)) := by
  have hsle : said ≤ 1000000 := by
    rw [← hsaid]
    have := took_le t bs.length
    unfold Tank.said
    split
    · omega
    · split <;> omega
  have hT := hW.2.2.2.2.2.2.2.2.2.2.1
  have c18 := hW.2.1.cell 18 rfl
  have hwr := writeR hT hok hP (by simp) (by omega) (by omega) hbnd hsaid hv
  have HW := Lib.hid hW
  have HWR := Lib.hid hwr
  have HKB := Lib.hid hk
  have HSA := Lib.hid hsaid
  clear hwr hT hW hP hok hlen htk hk hbnd hsaid hv
  go_enter Tryd.func50, Tryd.ntmps50
  go_wp2_with fail
  refine HWR.out.mono ?_
  rintro e w1 ⟨rfl, r1, g1, hT1⟩
  have hW1 := HW.out.tank g1 bs hT1
  have HG1 := Lib.hid g1
  have HSN := Lib.hid (sunkR (n := said) hW1 HKB.out hsle g1.bound)
  clear g1 hT1 hW1 c18
  go_wp2_with fail
  refine HSN.out.mono ?_
  rintro e w2 ⟨rfl, g2, hW2⟩
  have HG2 := Lib.hid g2
  have HW2 := Lib.hid hW2
  clear g2 hW2
  go_wp2
  refine bodyPost_ret (v := .tuple #[.int .i64 (said : Int), .int .i64 v]) (by simp [results, Tryd.f50, go_sem]) rfl ?_
  exact ⟨rfl, r1, (HG1.out.mono (fun j h => .inr h)).trans (HG2.out.mono (fun j h => .inl h)), by rw [HSA.out]; exact HW2.out⟩
end Go.Proofs.YtigfgdefgnahpaaDoor
