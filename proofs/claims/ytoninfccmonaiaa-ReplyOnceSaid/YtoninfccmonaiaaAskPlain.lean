import Derived.Test.YtoninfccmonaiaaAskExpR
import Derived.Test.YtoninfccmonaiaaAskAnsR
import Derived.Outline
namespace Go.Proofs.Ytoninfccmonaiaa
open Go.RowKit

/-! ### the plain law: a map of all that wait -/
def Keys (l : List Ask) : List Int := l.map (·.1)
theorem look_putAll_not {k : Int} : ∀ {l : List Ask} {m : List (Int × Value)}, ¬ k ∈ Keys l → lookL k (putAll m l) = lookL k m
  | [], _, _ => rfl
  | a :: r, m, h => by
    simp only [Keys, List.map_cons, List.mem_cons, not_or] at h
    rw [putAll, look_putAll_not (by simpa [Keys] using h.2), lookL_put, if_neg h.1]
theorem look_putAll_in {x : Ask} : ∀ {l : List Ask} {m : List (Int × Value)}, (Keys l).Nodup → x ∈ l → lookL x.1 (putAll m l) = some (askVal x)
  | [], _, _, hx => by simp at hx
  | a :: r, m, h, hx => by
    simp only [Keys, List.map_cons, List.nodup_cons] at h
    rcases List.mem_cons.1 hx with rfl | hr
    · rw [putAll, look_putAll_not (by simpa [Keys] using h.1), lookL_put, if_pos rfl]
    · rw [putAll]; exact look_putAll_in h.2 hr
theorem AskMap.put {m : List (Int × Value)} (h : AskMap m) (k : Int) (a : Ask) : AskMap (putL k (askVal a) m) := by
  intro k' v hv
  rw [lookL_put] at hv
  split at hv
  · cases hv; exact ⟨a, rfl⟩
  · exact h _ _ hv
theorem AskMap.all : ∀ {l : List Ask} {m : List (Int × Value)}, AskMap m → AskMap (putAll m l)
  | [], _, h => h
  | _ :: _, _, h => by rw [putAll]; exact AskMap.all (h.put _ _)
theorem AskMap.nil : AskMap [] := fun k v h => by simp [lookL] at h
theorem AskMap.del {m : List (Int × Value)} (h : AskMap m) (hn : (m.map (·.1)).Nodup) (k : Int) : AskMap (delL k m) := by
  intro k' v hv
  rw [lookL_del hn] at hv
  split at hv
  · cases hv
  · exact h _ _ hv
theorem nodup_putAll : ∀ {l : List Ask} {m : List (Int × Value)}, (m.map (·.1)).Nodup → ((putAll m l).map (·.1)).Nodup
  | [], _, h => h
  | _ :: _, _, h => by rw [putAll]; exact nodup_putAll (nodup_put h)
theorem inM_all {l : List Ask} (h : (Keys l).Nodup) {x : Ask} (hx : x ∈ l) : inM (putAll [] l) x = true := by unfold inM; rw [look_putAll_in h hx]; rfl
theorem key_one {l : List Ask} (h : (Keys l).Nodup) : ∀ {x y : Ask}, x ∈ l → y ∈ l → x.1 = y.1 → x = y := by
  induction l with
  | nil => intro x y hx; simp at hx
  | cons a r ih =>
    intro x y hx hy he
    simp only [Keys, List.map_cons, List.nodup_cons] at h
    rcases List.mem_cons.1 hx with rfl | hx2
    · rcases List.mem_cons.1 hy with rfl | hy2
      · rfl
      · exact absurd (he ▸ List.mem_map_of_mem hy2) h.1
    · rcases List.mem_cons.1 hy with rfl | hy2
      · exact absurd (he ▸ List.mem_map_of_mem hx2) h.1
      · exact ih h.2 hx2 hy2 he
theorem filter_true {p : Ask → Bool} {l : List Ask} (h : ∀ x ∈ l, p x = true) : l.filter p = l := List.filter_eq_self.2 h
theorem errF_keep {corr : Int} {topic : ByteArray} {now : Int} : ∀ {l : List Ask} {e : Int}, (∀ x ∈ l, keepB corr topic x = true) → errF corr topic now e l = e
  | [], _, _ => rfl
  | a :: r, e, h => by rw [errF, if_pos (h a (by simp)), errF_keep (fun x hx => h x (by simp [hx]))]
theorem errF_one {corr : Int} {topic : ByteArray} {now : Int} {x : Ask} (hk : keepB corr topic x = false) : ∀ {l : List Ask} {e : Int}, (Keys l).Nodup → x ∈ l → errF corr topic now e l = if lateB x now then 170 else 0
  | [], _, _, hx => by simp at hx
  | a :: r, e, h, hx => by
    have hn := h
    simp only [Keys, List.map_cons, List.nodup_cons] at h
    have hxc : x.1 = corr ∧ x.2.2 = topic := by simpa [keepB] using hk
    rcases List.mem_cons.1 hx with rfl | hr
    · rw [errF, hk]
      simp only [Bool.false_eq_true, if_false]
      refine errF_keep (fun y hy => ?_)
      cases hky : keepB corr topic y with
      | true => rfl
      | false =>
        have hyc : y.1 = corr ∧ y.2.2 = topic := by simpa [keepB] using hky
        exact absurd (by rw [hxc.1, ← hyc.1]; exact List.mem_map_of_mem hy) h.1
    · cases hka : keepB corr topic a with
      | true => rw [errF, if_pos hka]; exact errF_one hk h.2 hr
      | false =>
        have hac : a.1 = corr ∧ a.2.2 = topic := by simpa [keepB] using hka
        exact absurd (by rw [hac.1, ← hxc.1]; exact List.mem_map_of_mem hr) h.1

/-- none has the number -/
theorem plain_none {l : List Ask} (h : (Keys l).Nodup) {corr : Int} (topic : ByteArray) (now : Int) (hx : ¬ corr ∈ Keys l) :
    lookL corr (putAll [] l) = none ∧ l.filter (inM (putAll [] l)) = l.filter (keepB corr topic) ∧ errF corr topic now 230 l = 230 := by
  have hk : ∀ x ∈ l, keepB corr topic x = true := fun x hm => by
    have : ¬ x.1 = corr := fun e => hx (e ▸ List.mem_map_of_mem hm)
    simp [keepB, this]
  exact ⟨look_putAll_not hx, by rw [filter_true (fun x hm => inM_all h hm), filter_true hk], errF_keep hk⟩
theorem plain_other {l : List Ask} (h : (Keys l).Nodup) {x : Ask} (hx : x ∈ l) {topic : ByteArray} (now : Int) (ht : ¬ x.2.2 = topic) :
    l.filter (inM (putAll [] l)) = l.filter (keepB x.1 topic) ∧ errF x.1 topic now 230 l = 230 := by
  have hk : ∀ y ∈ l, keepB x.1 topic y = true := fun y hm => by
    by_cases e : y.1 = x.1
    · have := key_one h hm hx e
      subst this
      simp [keepB, ht]
    · simp [keepB, e]
  exact ⟨by rw [filter_true (fun x hm => inM_all h hm), filter_true hk], errF_keep hk⟩
theorem plain_it {l : List Ask} (h : (Keys l).Nodup) {x : Ask} (hx : x ∈ l) (now : Int) :
    l.filter (inM (delL x.1 (putAll [] l))) = l.filter (keepB x.1 x.2.2) ∧ errF x.1 x.2.2 now 230 l = if lateB x now then 170 else 0 := by
  refine ⟨List.filter_congr (fun y hm => ?_), errF_one (by simp [keepB]) h hx⟩
  unfold inM
  rw [lookL_del (nodup_putAll (by simp))]
  by_cases e : y.1 = x.1
  · have := key_one h hm hx e
    subst this
    simp [keepB]
  · rw [if_neg e, look_putAll_in h hm]
    simp [keepB, e]
end Go.Proofs.Ytoninfccmonaiaa
