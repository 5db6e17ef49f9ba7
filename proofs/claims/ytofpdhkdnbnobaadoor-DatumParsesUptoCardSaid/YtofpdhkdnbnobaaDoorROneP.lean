/-
  The reader's value by its first bytes (plain laws). Not a statement of the seat.
-/
import Derived.Test.YtofpdhkdnbnobaaDoorRRow
import Derived.Test.YtofpdhkdnbnobaaDoorRNum
namespace Go.Proofs.YtofpdhkdnbnobaaDoor

/-- a value of a row -/
def rowTo (k i : Int) : Res Fo → Res Dt
  | .ok l b => .ok ⟨k, i, 0, [], l⟩ b
  | .bad => .bad
  | .out => .out
theorem hasM_ne {L : Bs} {a : Nat} {b : UInt8} {t : Bs} (h : nx L a ≠ b) (hb : b ≠ 0) : hasM L a (b :: t) = false := by
  rw [hasM_cons hb]
  simp [h]
theorem hasM_first {L : Bs} {a : Nat} {b : UInt8} {t : Bs} (hb : b ≠ 0) (h : hasM L a (b :: t) = true) : nx L a = b := by
  rw [hasM_cons hb] at h
  simp only [Bool.and_eq_true, decide_eq_true_eq] at h
  exact h.1
section
variable {S : Bs} {f deep a : Nat}
theorem vm_nil (h16 : ¬ deep = 16) (hk : hasM S a [110, 105, 108] = true) : valueM S (f + 1) deep a = .ok Dt.zero (a + 3) := by
  have hn := hasM_first (by decide) hk
  rw [valueM, if_neg h16]
  rw [if_pos hk]
  try rfl
theorem vm_true (h16 : ¬ deep = 16) (hk : hasM S a [116, 114, 117, 101] = true) : valueM S (f + 1) deep a = .ok ⟨6, 1, 0, [], .nil⟩ (a + 4) := by
  have hn := hasM_first (by decide) hk
  rw [valueM, if_neg h16]
  rw [if_neg (show ¬ hasM S a [110, 105, 108] = true by rw [hasM_ne (by rw [hn]; decide) (by decide)]; simp)]
  rw [if_pos hk]
  try rfl
theorem vm_false (h16 : ¬ deep = 16) (hk : hasM S a [102, 97, 108, 115, 101] = true) : valueM S (f + 1) deep a = .ok ⟨6, 0, 0, [], .nil⟩ (a + 5) := by
  have hn := hasM_first (by decide) hk
  rw [valueM, if_neg h16]
  rw [if_neg (show ¬ hasM S a [110, 105, 108] = true by rw [hasM_ne (by rw [hn]; decide) (by decide)]; simp)]
  rw [if_neg (show ¬ hasM S a [116, 114, 117, 101] = true by rw [hasM_ne (by rw [hn]; decide) (by decide)]; simp)]
  rw [if_pos hk]
  try rfl
theorem vm_unit (h16 : ¬ deep = 16) (hk : hasM S a [123, 125] = true) : valueM S (f + 1) deep a = .ok ⟨13, 0, 0, [], .nil⟩ (a + 2) := by
  have hn := hasM_first (by decide) hk
  rw [valueM, if_neg h16]
  rw [if_neg (show ¬ hasM S a [110, 105, 108] = true by rw [hasM_ne (by rw [hn]; decide) (by decide)]; simp)]
  rw [if_neg (show ¬ hasM S a [116, 114, 117, 101] = true by rw [hasM_ne (by rw [hn]; decide) (by decide)]; simp)]
  rw [if_neg (show ¬ hasM S a [102, 97, 108, 115, 101] = true by rw [hasM_ne (by rw [hn]; decide) (by decide)]; simp)]
  rw [if_pos hk]
  try rfl
theorem vm_noptr (h16 : ¬ deep = 16) (hk : hasM S a [38, 110, 105, 108] = true) : valueM S (f + 1) deep a = .ok ⟨12, 0, 0, [], .nil⟩ (a + 4) := by
  have hn := hasM_first (by decide) hk
  rw [valueM, if_neg h16]
  rw [if_neg (show ¬ hasM S a [110, 105, 108] = true by rw [hasM_ne (by rw [hn]; decide) (by decide)]; simp)]
  rw [if_neg (show ¬ hasM S a [116, 114, 117, 101] = true by rw [hasM_ne (by rw [hn]; decide) (by decide)]; simp)]
  rw [if_neg (show ¬ hasM S a [102, 97, 108, 115, 101] = true by rw [hasM_ne (by rw [hn]; decide) (by decide)]; simp)]
  rw [if_neg (show ¬ hasM S a [123, 125] = true by rw [hasM_ne (by rw [hn]; decide) (by decide)]; simp)]
  rw [if_pos hk]
  try rfl
theorem vm_key (h16 : ¬ deep = 16) (hk : hasM S a [35] = true) : valueM S (f + 1) deep a = (match numberM S (a + 1) with | some v => .ok ⟨2, v, 0, [], .nil⟩ (numTo S (a + 1)) | none => .bad) := by
  have hn := hasM_first (by decide) hk
  rw [valueM, if_neg h16]
  rw [if_neg (show ¬ hasM S a [110, 105, 108] = true by rw [hasM_ne (by rw [hn]; decide) (by decide)]; simp)]
  rw [if_neg (show ¬ hasM S a [116, 114, 117, 101] = true by rw [hasM_ne (by rw [hn]; decide) (by decide)]; simp)]
  rw [if_neg (show ¬ hasM S a [102, 97, 108, 115, 101] = true by rw [hasM_ne (by rw [hn]; decide) (by decide)]; simp)]
  rw [if_neg (show ¬ hasM S a [123, 125] = true by rw [hasM_ne (by rw [hn]; decide) (by decide)]; simp)]
  rw [if_neg (show ¬ hasM S a [38, 110, 105, 108] = true by rw [hasM_ne (by rw [hn]; decide) (by decide)]; simp)]
  rw [if_pos hk]
  try rfl
theorem vm_float (h16 : ¬ deep = 16) (hk : hasM S a [102] = true) (hx : hasM S a [102, 97, 108, 115, 101] = false) : valueM S (f + 1) deep a = (if whileM S (a + 1) hexD = 16 then .ok ⟨3, 0, hexM ((S.drop (a + 1)).take 16) 0, [], .nil⟩ (a + 17) else .bad) := by
  have hn := hasM_first (by decide) hk
  rw [valueM, if_neg h16]
  rw [if_neg (show ¬ hasM S a [110, 105, 108] = true by rw [hasM_ne (by rw [hn]; decide) (by decide)]; simp)]
  rw [if_neg (show ¬ hasM S a [116, 114, 117, 101] = true by rw [hasM_ne (by rw [hn]; decide) (by decide)]; simp)]
  rw [if_neg (show ¬ hasM S a [102, 97, 108, 115, 101] = true by rw [hx]; simp)]
  rw [if_neg (show ¬ hasM S a [123, 125] = true by rw [hasM_ne (by rw [hn]; decide) (by decide)]; simp)]
  rw [if_neg (show ¬ hasM S a [38, 110, 105, 108] = true by rw [hasM_ne (by rw [hn]; decide) (by decide)]; simp)]
  rw [if_neg (show ¬ hasM S a [35] = true by rw [hasM_ne (by rw [hn]; decide) (by decide)]; simp)]
  rw [if_pos hk]
  try rfl
theorem vm_name (h16 : ¬ deep = 16) (hk : hasM S a [64] = true) : valueM S (f + 1) deep a = (if hasM S (a + 1) [34] then (match quotedM S f (a + 2) [] with | .ok t a' => .ok ⟨5, 0, 0, t, .nil⟩ a' | .bad => .bad | .out => .out) else .bad) := by
  have hn := hasM_first (by decide) hk
  rw [valueM, if_neg h16]
  rw [if_neg (show ¬ hasM S a [110, 105, 108] = true by rw [hasM_ne (by rw [hn]; decide) (by decide)]; simp)]
  rw [if_neg (show ¬ hasM S a [116, 114, 117, 101] = true by rw [hasM_ne (by rw [hn]; decide) (by decide)]; simp)]
  rw [if_neg (show ¬ hasM S a [102, 97, 108, 115, 101] = true by rw [hasM_ne (by rw [hn]; decide) (by decide)]; simp)]
  rw [if_neg (show ¬ hasM S a [123, 125] = true by rw [hasM_ne (by rw [hn]; decide) (by decide)]; simp)]
  rw [if_neg (show ¬ hasM S a [38, 110, 105, 108] = true by rw [hasM_ne (by rw [hn]; decide) (by decide)]; simp)]
  rw [if_neg (show ¬ hasM S a [35] = true by rw [hasM_ne (by rw [hn]; decide) (by decide)]; simp)]
  rw [if_neg (show ¬ hasM S a [102] = true by rw [hasM_ne (by rw [hn]; decide) (by decide)]; simp)]
  rw [if_pos hk]
  try rfl
theorem vm_bytes (h16 : ¬ deep = 16) (hk : hasM S a [37] = true) : valueM S (f + 1) deep a = (match unpairM ((S.drop (a + 1)).take (whileM S (a + 1) hexD)) with | some t => .ok ⟨7, 0, 0, t, .nil⟩ (a + 1 + whileM S (a + 1) hexD) | none => .bad) := by
  have hn := hasM_first (by decide) hk
  rw [valueM, if_neg h16]
  rw [if_neg (show ¬ hasM S a [110, 105, 108] = true by rw [hasM_ne (by rw [hn]; decide) (by decide)]; simp)]
  rw [if_neg (show ¬ hasM S a [116, 114, 117, 101] = true by rw [hasM_ne (by rw [hn]; decide) (by decide)]; simp)]
  rw [if_neg (show ¬ hasM S a [102, 97, 108, 115, 101] = true by rw [hasM_ne (by rw [hn]; decide) (by decide)]; simp)]
  rw [if_neg (show ¬ hasM S a [123, 125] = true by rw [hasM_ne (by rw [hn]; decide) (by decide)]; simp)]
  rw [if_neg (show ¬ hasM S a [38, 110, 105, 108] = true by rw [hasM_ne (by rw [hn]; decide) (by decide)]; simp)]
  rw [if_neg (show ¬ hasM S a [35] = true by rw [hasM_ne (by rw [hn]; decide) (by decide)]; simp)]
  rw [if_neg (show ¬ hasM S a [102] = true by rw [hasM_ne (by rw [hn]; decide) (by decide)]; simp)]
  rw [if_neg (show ¬ hasM S a [64] = true by rw [hasM_ne (by rw [hn]; decide) (by decide)]; simp)]
  rw [if_pos hk]
  try rfl
theorem vm_err (h16 : ¬ deep = 16) (hk : hasM S a [33] = true) : valueM S (f + 1) deep a = (match numberM S (a + 1) with | some v => if hasM S (numTo S (a + 1)) [34] then (match quotedM S f (numTo S (a + 1) + 1) [] with | .ok t a' => .ok ⟨10, v, 0, t, .nil⟩ a' | .bad => .bad | .out => .out) else .bad | none => .bad) := by
  have hn := hasM_first (by decide) hk
  rw [valueM, if_neg h16]
  rw [if_neg (show ¬ hasM S a [110, 105, 108] = true by rw [hasM_ne (by rw [hn]; decide) (by decide)]; simp)]
  rw [if_neg (show ¬ hasM S a [116, 114, 117, 101] = true by rw [hasM_ne (by rw [hn]; decide) (by decide)]; simp)]
  rw [if_neg (show ¬ hasM S a [102, 97, 108, 115, 101] = true by rw [hasM_ne (by rw [hn]; decide) (by decide)]; simp)]
  rw [if_neg (show ¬ hasM S a [123, 125] = true by rw [hasM_ne (by rw [hn]; decide) (by decide)]; simp)]
  rw [if_neg (show ¬ hasM S a [38, 110, 105, 108] = true by rw [hasM_ne (by rw [hn]; decide) (by decide)]; simp)]
  rw [if_neg (show ¬ hasM S a [35] = true by rw [hasM_ne (by rw [hn]; decide) (by decide)]; simp)]
  rw [if_neg (show ¬ hasM S a [102] = true by rw [hasM_ne (by rw [hn]; decide) (by decide)]; simp)]
  rw [if_neg (show ¬ hasM S a [64] = true by rw [hasM_ne (by rw [hn]; decide) (by decide)]; simp)]
  rw [if_neg (show ¬ hasM S a [37] = true by rw [hasM_ne (by rw [hn]; decide) (by decide)]; simp)]
  rw [if_pos hk]
  try rfl
theorem vm_ptr (h16 : ¬ deep = 16) (hk : hasM S a [38] = true) (hx : hasM S a [38, 110, 105, 108] = false) : valueM S (f + 1) deep a = (match numberM S (a + 1) with | some v => if hasM S (numTo S (a + 1)) [40] then rowTo 11 v (rowM S f (deep + 1) (numTo S (a + 1) + 1) [41] .nil) else .bad | none => .bad) := by
  have hn := hasM_first (by decide) hk
  rw [valueM, if_neg h16]
  rw [if_neg (show ¬ hasM S a [110, 105, 108] = true by rw [hasM_ne (by rw [hn]; decide) (by decide)]; simp)]
  rw [if_neg (show ¬ hasM S a [116, 114, 117, 101] = true by rw [hasM_ne (by rw [hn]; decide) (by decide)]; simp)]
  rw [if_neg (show ¬ hasM S a [102, 97, 108, 115, 101] = true by rw [hasM_ne (by rw [hn]; decide) (by decide)]; simp)]
  rw [if_neg (show ¬ hasM S a [123, 125] = true by rw [hasM_ne (by rw [hn]; decide) (by decide)]; simp)]
  rw [if_neg (show ¬ hasM S a [38, 110, 105, 108] = true by rw [hx]; simp)]
  rw [if_neg (show ¬ hasM S a [35] = true by rw [hasM_ne (by rw [hn]; decide) (by decide)]; simp)]
  rw [if_neg (show ¬ hasM S a [102] = true by rw [hasM_ne (by rw [hn]; decide) (by decide)]; simp)]
  rw [if_neg (show ¬ hasM S a [64] = true by rw [hasM_ne (by rw [hn]; decide) (by decide)]; simp)]
  rw [if_neg (show ¬ hasM S a [37] = true by rw [hasM_ne (by rw [hn]; decide) (by decide)]; simp)]
  rw [if_neg (show ¬ hasM S a [33] = true by rw [hasM_ne (by rw [hn]; decide) (by decide)]; simp)]
  rw [if_pos hk]
  cases numberM S (a + 1) with
  | none => rfl
  | some v => cases rowM S f (deep + 1) (numTo S (a + 1) + 1) [41] .nil <;> rfl
theorem vm_list (h16 : ¬ deep = 16) (hk : hasM S a [91] = true) : valueM S (f + 1) deep a = rowTo 8 0 (rowM S f (deep + 1) (a + 1) [93] .nil) := by
  have hn := hasM_first (by decide) hk
  rw [valueM, if_neg h16]
  rw [if_neg (show ¬ hasM S a [110, 105, 108] = true by rw [hasM_ne (by rw [hn]; decide) (by decide)]; simp)]
  rw [if_neg (show ¬ hasM S a [116, 114, 117, 101] = true by rw [hasM_ne (by rw [hn]; decide) (by decide)]; simp)]
  rw [if_neg (show ¬ hasM S a [102, 97, 108, 115, 101] = true by rw [hasM_ne (by rw [hn]; decide) (by decide)]; simp)]
  rw [if_neg (show ¬ hasM S a [123, 125] = true by rw [hasM_ne (by rw [hn]; decide) (by decide)]; simp)]
  rw [if_neg (show ¬ hasM S a [38, 110, 105, 108] = true by rw [hasM_ne (by rw [hn]; decide) (by decide)]; simp)]
  rw [if_neg (show ¬ hasM S a [35] = true by rw [hasM_ne (by rw [hn]; decide) (by decide)]; simp)]
  rw [if_neg (show ¬ hasM S a [102] = true by rw [hasM_ne (by rw [hn]; decide) (by decide)]; simp)]
  rw [if_neg (show ¬ hasM S a [64] = true by rw [hasM_ne (by rw [hn]; decide) (by decide)]; simp)]
  rw [if_neg (show ¬ hasM S a [37] = true by rw [hasM_ne (by rw [hn]; decide) (by decide)]; simp)]
  rw [if_neg (show ¬ hasM S a [33] = true by rw [hasM_ne (by rw [hn]; decide) (by decide)]; simp)]
  rw [if_neg (show ¬ hasM S a [38] = true by rw [hasM_ne (by rw [hn]; decide) (by decide)]; simp)]
  rw [if_pos hk]
  cases rowM S f (deep + 1) (a + 1) [93] .nil <;> rfl
theorem vm_pair (h16 : ¬ deep = 16) (hk : hasM S a [40] = true) : valueM S (f + 1) deep a = rowTo 9 0 (rowM S f (deep + 1) (a + 1) [41] .nil) := by
  have hn := hasM_first (by decide) hk
  rw [valueM, if_neg h16]
  rw [if_neg (show ¬ hasM S a [110, 105, 108] = true by rw [hasM_ne (by rw [hn]; decide) (by decide)]; simp)]
  rw [if_neg (show ¬ hasM S a [116, 114, 117, 101] = true by rw [hasM_ne (by rw [hn]; decide) (by decide)]; simp)]
  rw [if_neg (show ¬ hasM S a [102, 97, 108, 115, 101] = true by rw [hasM_ne (by rw [hn]; decide) (by decide)]; simp)]
  rw [if_neg (show ¬ hasM S a [123, 125] = true by rw [hasM_ne (by rw [hn]; decide) (by decide)]; simp)]
  rw [if_neg (show ¬ hasM S a [38, 110, 105, 108] = true by rw [hasM_ne (by rw [hn]; decide) (by decide)]; simp)]
  rw [if_neg (show ¬ hasM S a [35] = true by rw [hasM_ne (by rw [hn]; decide) (by decide)]; simp)]
  rw [if_neg (show ¬ hasM S a [102] = true by rw [hasM_ne (by rw [hn]; decide) (by decide)]; simp)]
  rw [if_neg (show ¬ hasM S a [64] = true by rw [hasM_ne (by rw [hn]; decide) (by decide)]; simp)]
  rw [if_neg (show ¬ hasM S a [37] = true by rw [hasM_ne (by rw [hn]; decide) (by decide)]; simp)]
  rw [if_neg (show ¬ hasM S a [33] = true by rw [hasM_ne (by rw [hn]; decide) (by decide)]; simp)]
  rw [if_neg (show ¬ hasM S a [38] = true by rw [hasM_ne (by rw [hn]; decide) (by decide)]; simp)]
  rw [if_neg (show ¬ hasM S a [91] = true by rw [hasM_ne (by rw [hn]; decide) (by decide)]; simp)]
  rw [if_pos hk]
  cases rowM S f (deep + 1) (a + 1) [41] .nil <;> rfl
theorem vm_text (h16 : ¬ deep = 16) (hk : hasM S a [34] = true) : valueM S (f + 1) deep a = (match quotedM S f (a + 1) [] with | .ok t a' => .ok ⟨4, 0, 0, t, .nil⟩ a' | .bad => .bad | .out => .out) := by
  have hn := hasM_first (by decide) hk
  rw [valueM, if_neg h16]
  rw [if_neg (show ¬ hasM S a [110, 105, 108] = true by rw [hasM_ne (by rw [hn]; decide) (by decide)]; simp)]
  rw [if_neg (show ¬ hasM S a [116, 114, 117, 101] = true by rw [hasM_ne (by rw [hn]; decide) (by decide)]; simp)]
  rw [if_neg (show ¬ hasM S a [102, 97, 108, 115, 101] = true by rw [hasM_ne (by rw [hn]; decide) (by decide)]; simp)]
  rw [if_neg (show ¬ hasM S a [123, 125] = true by rw [hasM_ne (by rw [hn]; decide) (by decide)]; simp)]
  rw [if_neg (show ¬ hasM S a [38, 110, 105, 108] = true by rw [hasM_ne (by rw [hn]; decide) (by decide)]; simp)]
  rw [if_neg (show ¬ hasM S a [35] = true by rw [hasM_ne (by rw [hn]; decide) (by decide)]; simp)]
  rw [if_neg (show ¬ hasM S a [102] = true by rw [hasM_ne (by rw [hn]; decide) (by decide)]; simp)]
  rw [if_neg (show ¬ hasM S a [64] = true by rw [hasM_ne (by rw [hn]; decide) (by decide)]; simp)]
  rw [if_neg (show ¬ hasM S a [37] = true by rw [hasM_ne (by rw [hn]; decide) (by decide)]; simp)]
  rw [if_neg (show ¬ hasM S a [33] = true by rw [hasM_ne (by rw [hn]; decide) (by decide)]; simp)]
  rw [if_neg (show ¬ hasM S a [38] = true by rw [hasM_ne (by rw [hn]; decide) (by decide)]; simp)]
  rw [if_neg (show ¬ hasM S a [91] = true by rw [hasM_ne (by rw [hn]; decide) (by decide)]; simp)]
  rw [if_neg (show ¬ hasM S a [40] = true by rw [hasM_ne (by rw [hn]; decide) (by decide)]; simp)]
  rw [if_pos hk]
  try rfl
theorem vm_number (h16 : ¬ deep = 16) (hne : ∀ b ∈ ([33, 34, 35, 37, 38, 40, 64, 91, 102, 110, 116, 123] : Bs), nx S a ≠ b) : valueM S (f + 1) deep a = (match numberM S a with | some v => .ok ⟨1, v, 0, [], .nil⟩ (numTo S a) | none => .bad) := by
  rw [valueM, if_neg h16]
  rw [if_neg (show ¬ hasM S a [110, 105, 108] = true by rw [hasM_ne (hne 110 (by simp)) (by decide)]; simp)]
  rw [if_neg (show ¬ hasM S a [116, 114, 117, 101] = true by rw [hasM_ne (hne 116 (by simp)) (by decide)]; simp)]
  rw [if_neg (show ¬ hasM S a [102, 97, 108, 115, 101] = true by rw [hasM_ne (hne 102 (by simp)) (by decide)]; simp)]
  rw [if_neg (show ¬ hasM S a [123, 125] = true by rw [hasM_ne (hne 123 (by simp)) (by decide)]; simp)]
  rw [if_neg (show ¬ hasM S a [38, 110, 105, 108] = true by rw [hasM_ne (hne 38 (by simp)) (by decide)]; simp)]
  rw [if_neg (show ¬ hasM S a [35] = true by rw [hasM_ne (hne 35 (by simp)) (by decide)]; simp)]
  rw [if_neg (show ¬ hasM S a [102] = true by rw [hasM_ne (hne 102 (by simp)) (by decide)]; simp)]
  rw [if_neg (show ¬ hasM S a [64] = true by rw [hasM_ne (hne 64 (by simp)) (by decide)]; simp)]
  rw [if_neg (show ¬ hasM S a [37] = true by rw [hasM_ne (hne 37 (by simp)) (by decide)]; simp)]
  rw [if_neg (show ¬ hasM S a [33] = true by rw [hasM_ne (hne 33 (by simp)) (by decide)]; simp)]
  rw [if_neg (show ¬ hasM S a [38] = true by rw [hasM_ne (hne 38 (by simp)) (by decide)]; simp)]
  rw [if_neg (show ¬ hasM S a [91] = true by rw [hasM_ne (hne 91 (by simp)) (by decide)]; simp)]
  rw [if_neg (show ¬ hasM S a [40] = true by rw [hasM_ne (hne 40 (by simp)) (by decide)]; simp)]
  rw [if_neg (show ¬ hasM S a [34] = true by rw [hasM_ne (hne 34 (by simp)) (by decide)]; simp)]
  rfl
theorem vm_none (h16 : ¬ deep = 16) (h0 : hasM S a [110, 105, 108] = false) (h1 : hasM S a [116, 114, 117, 101] = false) (h2 : hasM S a [102, 97, 108, 115, 101] = false) (h3 : hasM S a [123, 125] = false) (h4 : hasM S a [38, 110, 105, 108] = false) (h5 : hasM S a [35] = false) (h6 : hasM S a [102] = false) (h7 : hasM S a [64] = false) (h8 : hasM S a [37] = false) (h9 : hasM S a [33] = false) (h10 : hasM S a [38] = false) (h11 : hasM S a [91] = false) (h12 : hasM S a [40] = false) (h13 : hasM S a [34] = false) (hno : numberM S a = none) : valueM S (f + 1) deep a = .bad := by
  rw [valueM, if_neg h16]
  rw [if_neg (show ¬ hasM S a [110, 105, 108] = true by rw [h0]; simp)]
  rw [if_neg (show ¬ hasM S a [116, 114, 117, 101] = true by rw [h1]; simp)]
  rw [if_neg (show ¬ hasM S a [102, 97, 108, 115, 101] = true by rw [h2]; simp)]
  rw [if_neg (show ¬ hasM S a [123, 125] = true by rw [h3]; simp)]
  rw [if_neg (show ¬ hasM S a [38, 110, 105, 108] = true by rw [h4]; simp)]
  rw [if_neg (show ¬ hasM S a [35] = true by rw [h5]; simp)]
  rw [if_neg (show ¬ hasM S a [102] = true by rw [h6]; simp)]
  rw [if_neg (show ¬ hasM S a [64] = true by rw [h7]; simp)]
  rw [if_neg (show ¬ hasM S a [37] = true by rw [h8]; simp)]
  rw [if_neg (show ¬ hasM S a [33] = true by rw [h9]; simp)]
  rw [if_neg (show ¬ hasM S a [38] = true by rw [h10]; simp)]
  rw [if_neg (show ¬ hasM S a [91] = true by rw [h11]; simp)]
  rw [if_neg (show ¬ hasM S a [40] = true by rw [h12]; simp)]
  rw [if_neg (show ¬ hasM S a [34] = true by rw [h13]; simp)]
  rw [hno]
end
theorem dig_ne {L : Bs} {a : Nat} (h : (nx L a).toNat = 45 ∨ (48 ≤ (nx L a).toNat ∧ (nx L a).toNat ≤ 57)) : ∀ b ∈ ([33, 34, 35, 37, 38, 40, 64, 91, 102, 110, 116, 123] : Bs), nx L a ≠ b := by
  intro b hb e
  have key : ∀ b ∈ ([33, 34, 35, 37, 38, 40, 64, 91, 102, 110, 116, 123] : Bs), ¬ (b.toNat = 45 ∨ (48 ≤ b.toNat ∧ b.toNat ≤ 57)) := by decide
  exact key b hb (e ▸ h)
theorem no_number {L : Bs} {a : Nat} (h1 : ¬ (nx L a).toNat = 45) (h2 : ¬ (48 ≤ (nx L a).toNat ∧ (nx L a).toNat ≤ 57)) : numberM L a = none := by
  have hs : signM L a = false := by
    unfold signM
    exact hasM_ne (fun e => h1 (by rw [e]; rfl)) (by decide)
  have hd : digM L a = a := by unfold digM; rw [hs]; rfl
  have hw : whileM L a decD = 0 := by
    rcases Nat.eq_zero_or_pos (whileM L a decD) with h | h
    · exact h
    · exact absurd (while_at.2 h) h2
  have ht : numText L a = [] := by
    rw [numText_eq]
    unfold digsM
    rw [hs, hd, hw]
    rfl
  unfold numberM
  rw [ht]
  rfl

end Go.Proofs.YtofpdhkdnbnobaaDoor