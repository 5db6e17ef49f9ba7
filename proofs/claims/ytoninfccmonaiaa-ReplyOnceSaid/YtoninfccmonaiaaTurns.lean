import Derived.Test.YtoninfccmonaiaaAskLaw
import Derived.Outline
namespace Go.Proofs.Ytoninfccmonaiaa
open Go.RowKit

/-- a turn: what, number, topic, how much later, until -/
abbrev Turn := Int × Int × ByteArray × Int × Int
def noTurn : Turn := (0, 0, ByteArray.empty, 0, 0)
def turnV (t : Turn) : List Value := [.int .i64 t.1, .int .i64 t.2.1, .string t.2.2.1, .int .i64 t.2.2.2.1, .int .i64 t.2.2.2.2]
theorem rows_get {α : Type} (z : α) (f : α → List Value) (sz : Nat) (hf : ∀ x, (f x).length = sz) : ∀ (l : List α) (i r : Nat), i < l.length → r < sz → (l.flatMap f)[i * sz + r]? = (f (l[i]?.getD z))[r]?
  | [], i, r, hi, _ => by simp at hi
  | a :: t, 0, r, hi, hr => by
    simp only [List.flatMap_cons, Nat.zero_mul, Nat.zero_add, List.getElem?_cons_zero, Option.getD_some]
    rw [List.getElem?_append_left (by rw [hf]; exact hr)]
  | a :: t, i + 1, r, hi, hr => by
    simp only [List.flatMap_cons, List.getElem?_cons_succ]
    rw [List.getElem?_append_right (by rw [hf, Nat.add_mul]; omega), hf, ← rows_get z f sz hf t i r (by simpa using hi) hr]
    congr 1
    rw [Nat.add_mul]; omega
theorem rows_len {α : Type} (f : α → List Value) (sz : Nat) (hf : ∀ x, (f x).length = sz) : ∀ (l : List α), (l.flatMap f).length = l.length * sz
  | [] => by simp
  | a :: t => by simp only [List.flatMap_cons, List.length_append, hf, rows_len f sz hf t, List.length_cons, Nat.add_mul]; omega

def Turns (w : World) (a : Option Addr) (n cap : Nat) (l : List Turn) : Prop := Rd w 5 a n cap (l.flatMap turnV)
theorem Turns.len {w : World} {a : Option Addr} {n cap : Nat} {l : List Turn} (h : Turns w a n cap l) : l.length = n := by
  have := Rd.len h; rw [rows_len turnV 5 (fun _ => rfl)] at this; omega
theorem Turns.bounds {w : World} {a : Option Addr} {n cap : Nat} {l : List Turn} (h : Turns w a n cap l) : n ≤ cap ∧ cap ≤ 9223372036854775807 := by
  have h1 := Rd.le h
  have h2 := Rd.max h
  unfold maxLen at h2
  exact ⟨h1, by omega⟩
theorem Turns.at {w : World} {a : Option Addr} {n cap : Nat} {l : List Turn} (h : Turns w a n cap l) {k : Nat} (hk : k < n) :
    ∃ b off, a = some ⟨b, off, none⟩ ∧ b < w.heap.size ∧ w.cell? ⟨b, off + k * 5, none⟩ = some (.int .i64 (l[k]?.getD noTurn).1) ∧
      w.cell? ⟨b, off + k * 5 + 1, none⟩ = some (.int .i64 (l[k]?.getD noTurn).2.1) ∧ w.cell? ⟨b, off + k * 5 + 2, none⟩ = some (.string (l[k]?.getD noTurn).2.2.1) ∧
      w.cell? ⟨b, off + k * 5 + 3, none⟩ = some (.int .i64 (l[k]?.getD noTurn).2.2.2.1) ∧ w.cell? ⟨b, off + k * 5 + 4, none⟩ = some (.int .i64 (l[k]?.getD noTurn).2.2.2.2) := by
  obtain ⟨b, off, ha, hb, hc⟩ := Rd.at h hk
  have hl := h.len
  have hg := fun r (hr : r < 5) => rows_get noTurn turnV 5 (fun _ => rfl) l k r (by omega) hr
  refine ⟨b, off, ha, hb, ?_, ?_, ?_, ?_, ?_⟩
  · have := hc 0 (by omega); rw [hg 0 (by omega)] at this; simpa [turnV] using this
  · have := hc 1 (by omega); rw [hg 1 (by omega)] at this; simpa [turnV] using this
  · have := hc 2 (by omega); rw [hg 2 (by omega)] at this; simpa [turnV] using this
  · have := hc 3 (by omega); rw [hg 3 (by omega)] at this; simpa [turnV] using this
  · have := hc 4 (by omega); rw [hg 4 (by omega)] at this; simpa [turnV] using this

/-! ### counts -/
def Cnt (m : List (Int × Value)) (f : Int → Int) : Prop := ∀ k, (lookL k m).getD (.int .i64 0) = .int .i64 (f k)
theorem Cnt.nil : Cnt [] (fun _ => 0) := fun _ => rfl
def bump (f : Int → Int) (k : Int) : Int → Int := fun k' => if k' = k then f k + 1 else f k'
theorem Cnt.put {m : List (Int × Value)} {f : Int → Int} (h : Cnt m f) (k : Int) : Cnt (putL k (.int .i64 (f k + 1)) m) (bump f k) := by
  intro k'
  rw [lookL_put]
  unfold bump
  split
  · rfl
  · exact h k'
/-- the ends, where (last, l) is what waits -/
def Ends (last : Int) (l : List Ask) (f : Int → Int) : Prop := ∀ k, f k = if 1 ≤ k ∧ k ≤ last ∧ ¬ k ∈ Keys l then 1 else 0
def bumps (f : Int → Int) : List Ask → Int → Int
  | [] => f
  | a :: r => bumps (bump f a.1) r
theorem keys_cons {a : Ask} {r : List Ask} {k : Int} : k ∈ Keys (a :: r) ↔ k = a.1 ∨ k ∈ Keys r := by simp [Keys]
theorem keys_snoc {a : Ask} {r : List Ask} {k : Int} : k ∈ Keys (r ++ [a]) ↔ k ∈ Keys r ∨ k = a.1 := by simp [Keys]
theorem bumps_eq : ∀ {l : List Ask} {f : Int → Int} (k : Int), (Keys l).Nodup → bumps f l k = if k ∈ Keys l then f k + 1 else f k
  | [], f, k, _ => by simp [bumps, Keys]
  | a :: r, f, k, h => by
    have h1 : ¬ a.1 ∈ Keys r := by simp only [Keys, List.map_cons, List.nodup_cons] at h; exact h.1
    have h2 : (Keys r).Nodup := by simp only [Keys, List.map_cons, List.nodup_cons] at h; exact h.2
    rw [bumps, bumps_eq k h2]
    unfold bump
    by_cases e : k = a.1
    · have hn : ¬ k ∈ Keys r := by rw [e]; exact h1
      rw [if_neg hn, if_pos (keys_cons.2 (.inl e)), if_pos e, e]
    · by_cases hm : k ∈ Keys r
      · rw [if_pos hm, if_pos (keys_cons.2 (.inr hm)), if_neg e]
      · have hc : ¬ k ∈ Keys (a :: r) := fun x => by rcases keys_cons.1 x with y | y; exact e y; exact hm y
        rw [if_neg hm, if_neg hc, if_neg e]
theorem keys_filter {p : Ask → Bool} {l : List Ask} {k : Int} : k ∈ Keys (l.filter p) ↔ ∃ x ∈ l, p x = true ∧ x.1 = k := by
  simp only [Keys, List.mem_map, List.mem_filter]
  constructor
  · rintro ⟨x, ⟨h1, h2⟩, h3⟩; exact ⟨x, h1, h2, h3⟩
  · rintro ⟨x, h1, h2, h3⟩; exact ⟨x, ⟨h1, h2⟩, h3⟩
theorem Ends.open {last : Int} {l : List Ask} {f : Int → Int} (h : Ends last l f) (hf : fitFrom last 0 l = true) (t : ByteArray) (u : Int) (h0 : 0 ≤ last) : Ends (last + 1) (l ++ [(last + 1, u, t)]) f := by
  intro k
  rw [h k]
  have hk : k ∈ Keys l → 1 ≤ k ∧ k ≤ last := by
    intro hm
    obtain ⟨x, hx, rfl⟩ := List.mem_map.1 hm
    have := fitFrom_gt hf x hx
    omega
  by_cases e : k = last + 1
  · rw [if_neg (by omega), if_neg (fun x => x.2.2 (keys_snoc.2 (.inr e)))]
  · by_cases hm : k ∈ Keys l
    · rw [if_neg (fun x => x.2.2 hm), if_neg (fun x => x.2.2 (keys_snoc.2 (.inl hm)))]
    · have hn : ¬ k ∈ Keys (l ++ [(last + 1, u, t)]) := fun x => by rcases keys_snoc.1 x with y | y; exact hm y; exact e y
      by_cases hr : 1 ≤ k ∧ k ≤ last
      · rw [if_pos ⟨hr.1, hr.2, hm⟩, if_pos ⟨hr.1, by omega, hn⟩]
      · rw [if_neg (fun x => hr ⟨x.1, x.2.1⟩), if_neg (fun x => hr ⟨x.1, by omega⟩)]
theorem Ends.ans {last : Int} {l : List Ask} {f : Int → Int} (h : Ends last l f) (hf : fitFrom last 0 l = true) {x : Ask} (hx : x ∈ l) : Ends last (l.filter (keepB x.1 x.2.2)) (bump f x.1) := by
  intro k
  have hnd := fitFrom_nodup hf
  have hr := fitFrom_gt hf x hx
  have hfx := h x.1
  rw [if_neg (by simp only [Keys]; intro hh; exact hh.2.2 (List.mem_map_of_mem hx))] at hfx
  unfold bump
  by_cases e : k = x.1
  · subst e
    rw [if_pos rfl, hfx, if_pos]
    · rfl
    · refine ⟨by omega, hr.2, fun hm => ?_⟩
      obtain ⟨y, hy, hp, he⟩ := keys_filter.1 hm
      have := key_one hnd hy hx he
      subst this
      simp [keepB] at hp
  · rw [if_neg e, h k]
    have e1 : k ∈ Keys l ↔ k ∈ Keys (l.filter (keepB x.1 x.2.2)) := by
      rw [keys_filter]
      simp only [Keys, List.mem_map]
      constructor
      · rintro ⟨y, hy, rfl⟩; exact ⟨y, hy, by simp [keepB, e], rfl⟩
      · rintro ⟨y, hy, _, rfl⟩; exact ⟨y, hy, rfl⟩
    simp only [e1]
theorem Ends.exp {last : Int} {l : List Ask} {f : Int → Int} (h : Ends last l f) (hf : fitFrom last 0 l = true) (now : Int) : Ends last (l.filter (stayB now)) (bumps f (l.filter (goneB now))) := by
  intro k
  have hnd := fitFrom_nodup hf
  rw [bumps_eq k (fitFrom_nodup (fitFrom_filter _ hf)), h k]
  by_cases hg : k ∈ Keys (l.filter (goneB now))
  · rw [if_pos hg]
    obtain ⟨x, hx, hp, rfl⟩ := keys_filter.1 hg
    have hr := fitFrom_gt hf x hx
    rw [if_neg (by simp only [Keys]; intro hh; exact hh.2.2 (List.mem_map_of_mem hx)), if_pos]
    · rfl
    · refine ⟨by omega, hr.2, fun hm => ?_⟩
      obtain ⟨y, hy, hq, he⟩ := keys_filter.1 hm
      have := key_one hnd hy hx he
      subst this
      simp [stayB] at hq
      simp [goneB, hq] at hp
  · rw [if_neg hg]
    have e1 : k ∈ Keys l ↔ k ∈ Keys (l.filter (stayB now)) := by
      rw [keys_filter]
      constructor
      · intro hm
        obtain ⟨y, hy, rfl⟩ := List.mem_map.1 hm
        refine ⟨y, hy, ?_, rfl⟩
        cases hl : lateB y now with
        | false => simp [stayB, hl]
        | true => exact absurd (keys_filter.2 ⟨y, hy, by simp [goneB, hl], rfl⟩) hg
      · rintro ⟨y, hy, _, rfl⟩; exact List.mem_map_of_mem hy
    simp only [e1]
end Go.Proofs.Ytoninfccmonaiaa
