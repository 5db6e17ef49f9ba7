import Derived.Test.YtoninfccmonaiaaAskAwake
import Derived.Test.YtoninfccmonaiaaAskExpN
import Derived.Test.YtoninfccmonaiaaAskFit
import Derived.Outline
namespace Go.Proofs.Ytoninfccmonaiaa
open Go.RowKit

/-! ### fit states: the plain law -/
theorem fitFrom_gt {next : Int} : ∀ {l : List Ask} {last : Int}, fitFrom next last l = true → ∀ x ∈ l, last < x.1 ∧ x.1 ≤ next
  | [], _, _, x, hx => by simp at hx
  | a :: r, last, h, x, hx => by
    simp only [fitFrom, Bool.and_eq_true] at h
    have ha : last < a.1 ∧ a.1 ≤ next := by
      have := h.1
      unfold okAsk at this
      simp at this
      omega
    rcases List.mem_cons.1 hx with rfl | hr
    · exact ha
    · have := fitFrom_gt h.2 x hr
      omega
theorem fitFrom_nodup {next : Int} : ∀ {l : List Ask} {last : Int}, fitFrom next last l = true → (Keys l).Nodup
  | [], _, _ => by simp [Keys]
  | a :: r, last, h => by
    simp only [fitFrom, Bool.and_eq_true] at h
    simp only [Keys, List.map_cons, List.nodup_cons]
    refine ⟨fun hm => ?_, fitFrom_nodup h.2⟩
    obtain ⟨x, hx, he⟩ := List.mem_map.1 hm
    have := fitFrom_gt h.2 x hx
    omega
theorem okAsk_mono {next last last' : Int} {a : Ask} (h : okAsk next last a = true) (hl : last' ≤ last) : okAsk next last' a = true := by
  unfold okAsk at *
  simp at *
  omega
theorem fitFrom_mono {next : Int} : ∀ {l : List Ask} {last last' : Int}, fitFrom next last l = true → last' ≤ last → fitFrom next last' l = true
  | [], _, _, _, _ => rfl
  | a :: r, last, last', h, hl => by
    simp only [fitFrom, Bool.and_eq_true] at h ⊢
    exact ⟨okAsk_mono h.1 hl, h.2⟩
theorem fitFrom_filter {next : Int} (p : Ask → Bool) : ∀ {l : List Ask} {last : Int}, fitFrom next last l = true → fitFrom next last (l.filter p) = true
  | [], _, _ => rfl
  | a :: r, last, h => by
    simp only [fitFrom, Bool.and_eq_true] at h
    cases hp : p a with
    | true =>
      rw [List.filter_cons_of_pos hp]
      simp only [fitFrom, Bool.and_eq_true]
      exact ⟨h.1, fitFrom_filter p h.2⟩
    | false =>
      rw [List.filter_cons_of_neg (by simp [hp])]
      have : last < a.1 := by have := h.1; unfold okAsk at this; simp at this; omega
      exact fitFrom_mono (fitFrom_filter p h.2) (by omega)
theorem fitFrom_snoc {next : Int} {topic : ByteArray} {til : Int} (h1 : 0 ≤ til) (h2 : til ≤ 1099511627776) : ∀ {l : List Ask} {last : Int}, fitFrom next last l = true → last ≤ next → fitFrom (next + 1) last (l ++ [(next + 1, til, topic)]) = true
  | [], last, _, hl => by
    simp [fitFrom, okAsk]
    omega
  | a :: r, last, h, hl => by
    simp only [fitFrom, Bool.and_eq_true, List.cons_append] at h ⊢
    have h0 := h.1
    unfold okAsk at h0
    simp at h0
    refine ⟨?_, fitFrom_snoc h1 h2 h.2 (by omega)⟩
    unfold okAsk
    simp
    omega
theorem headFit_facts {next : Int} {n : Nat} (h : headFit next n = true) : 0 ≤ next ∧ next ≤ 4611686018427387904 ∧ n ≤ 1024 := by
  unfold headFit at h
  simp at h
  omega
theorem headFit_of {next : Int} {n : Nat} (h0 : 0 ≤ next) (h1 : next ≤ 4611686018427387904) (h2 : n ≤ 1024) : headFit next n = true := by
  unfold headFit
  simp
  omega
theorem fitA_parts {next : Int} {l : List Ask} (h : fitA next l = true) : (0 ≤ next ∧ next ≤ 4611686018427387904 ∧ l.length ≤ 1024) ∧ fitFrom next 0 l = true := by
  unfold fitA at h
  simp only [Bool.and_eq_true] at h
  exact ⟨headFit_facts h.1, h.2⟩
theorem fitA_nodup {next : Int} {l : List Ask} (h : fitA next l = true) : (Keys l).Nodup := fitFrom_nodup (fitA_parts h).2
theorem fitA_filter {next : Int} {l : List Ask} (h : fitA next l = true) (p : Ask → Bool) : fitA next (l.filter p) = true := by
  obtain ⟨⟨h0, h1, h2⟩, h3⟩ := fitA_parts h
  unfold fitA
  rw [headFit_of h0 h1 (Nat.le_trans (List.length_filter_le _ _) h2), fitFrom_filter p h3]
  rfl

/-- what Open comes to -/
def OpenRes (next : Int) (l : List Ask) (topic : ByteArray) (til : Int) (next2 : Int) (l2 : List Ask) (n2 : Nat) (k2 e2 : Int) : Prop :=
  (fullA next l.length = true ∧ next2 = next ∧ l2 = l ∧ n2 = l.length ∧ k2 = 0 ∧ e2 = 190) ∨
  (fullA next l.length = false ∧ next2 = next + 1 ∧ l2 = l ++ [(next + 1, til, topic)] ∧ n2 = l.length + 1 ∧ k2 = next + 1 ∧ e2 = 0)
theorem openRes (next : Int) (l : List Ask) (topic : ByteArray) (til : Int) : ∃ next2 l2 n2 k2 e2, OpenRes next l topic til next2 l2 n2 k2 e2 := by
  cases h : fullA next l.length with
  | true => exact ⟨_, _, _, _, _, .inl ⟨h, rfl, rfl, rfl, rfl, rfl⟩⟩
  | false => exact ⟨_, _, _, _, _, .inr ⟨h, rfl, rfl, rfl, rfl, rfl⟩⟩
theorem OpenRes.fit {next : Int} {l : List Ask} {topic : ByteArray} {til : Int} {next2 : Int} {l2 : List Ask} {n2 : Nat} {k2 e2 : Int} (h : OpenRes next l topic til next2 l2 n2 k2 e2) (hf : fitA next l = true) (h1 : 0 ≤ til) (h2 : til ≤ 1099511627776) :
    fitA next2 l2 = true ∧ l2.length = n2 ∧ n2 ≤ 1024 := by
  obtain ⟨⟨g0, g1, g2⟩, g3⟩ := fitA_parts hf
  rcases h with ⟨_, rfl, rfl, rfl, _, _⟩ | ⟨hn, rfl, rfl, rfl, _, _⟩
  · exact ⟨hf, rfl, g2⟩
  · unfold fullA at hn
    simp at hn
    refine ⟨?_, by simp, by omega⟩
    unfold fitA
    rw [headFit_of (by omega) (by omega) (by simp; omega), fitFrom_snoc h1 h2 g3 (by omega)]
    rfl
section
variable {next : Int} {l : List Ask} {a : Option Addr} {n cap : Nat} {topic : ByteArray} {til : Int} {w : World} {next2 : Int} {l2 : List Ask} {n2 : Nat} {k2 e2 : Int}
theorem openN_any (hr : OpenRes next l topic til next2 l2 n2 k2 e2) (h : Asks w a n cap l) (hn : n ≤ 100000) (h0 : 0 ≤ next) :
    Calls Try.prog 18 #[.agg #[.int .i64 next, .slice a n cap], .string topic, .int .i64 til] w (StNum w next2 l2 n2 k2 e2) := by
  have hl := h.len
  rcases hr with ⟨hf, rfl, rfl, rfl, rfl, rfl⟩ | ⟨hf, rfl, rfl, rfl, rfl, rfl⟩
  · rw [hl] at hf ⊢; exact openN_full _ _ a n cap topic til w h hn hf
  · rw [hl] at hf ⊢; exact openN_room _ _ a n cap topic til w h hn h0 hf
theorem openR_any (hr : OpenRes next l topic til next2 l2 n2 k2 e2) (h : Asks w a n cap l) (hn : n ≤ 100000) (h0 : 0 ≤ next) :
    Calls Try.prog 19 #[.agg #[.int .i64 next, .slice a n cap], .string topic, .int .i64 til] w (StNum w next2 l2 n2 k2 e2) := by
  have hl := h.len
  rcases hr with ⟨hf, rfl, rfl, rfl, rfl, rfl⟩ | ⟨hf, rfl, rfl, rfl, rfl, rfl⟩
  · rw [hl] at hf ⊢; exact openR_full _ _ a n cap topic til w h hn hf
  · rw [hl] at hf ⊢; exact openR_room _ _ a n cap topic til w h hn h0 hf
end
/-- what Answer comes to -/
def AnsRes (l : List Ask) (corr : Int) (topic : ByteArray) (now : Int) (l3 : List Ask) (n3 : Nat) (e3 : Int) : Prop :=
  l.filter (keepB corr topic) = l3 ∧ l3.length = n3 ∧ errF corr topic now 230 l = e3
theorem ansRes (l : List Ask) (corr : Int) (topic : ByteArray) (now : Int) : ∃ l3 n3 e3, AnsRes l corr topic now l3 n3 e3 := ⟨_, _, _, rfl, rfl, rfl⟩
theorem ansN_any {next : Int} {l : List Ask} {a : Option Addr} {n cap : Nat} {corr : Int} {topic : ByteArray} {now : Int} {w : World} {l3 : List Ask} {n3 : Nat} {e3 : Int} (hr : AnsRes l corr topic now l3 n3 e3) (h : Asks w a n cap l) (hn : n ≤ 100000) (hnd : (Keys l).Nodup) :
    Calls Try.prog 21 #[.agg #[.int .i64 next, .slice a n cap], .int .i64 corr, .string topic, .int .i64 now] w (StErr w next l3 n3 e3) := by
  obtain ⟨rfl, rfl, rfl⟩ := hr
  exact ansN next l a n cap corr topic now w h hn hnd
theorem ansR_any {next : Int} {l : List Ask} {a : Option Addr} {n cap : Nat} {corr : Int} {topic : ByteArray} {now : Int} {w : World} {l3 : List Ask} {n3 : Nat} {e3 : Int} (hr : AnsRes l corr topic now l3 n3 e3) (h : Asks w a n cap l) (hn : n ≤ 100000) :
    Calls Try.prog 22 #[.agg #[.int .i64 next, .slice a n cap], .int .i64 corr, .string topic, .int .i64 now] w (StErr w next l3 n3 e3) := by
  obtain ⟨rfl, rfl, rfl⟩ := hr
  exact ansR next l a n cap corr topic now w h hn
/-- what Expire comes to -/
def ExpRes (l : List Ask) (now : Int) (l4 : List Ask) (n4 : Nat) (g4 : List Ask) (m4 : Nat) : Prop :=
  l.filter (stayB now) = l4 ∧ l4.length = n4 ∧ l.filter (goneB now) = g4 ∧ g4.length = m4
theorem expRes (l : List Ask) (now : Int) : ∃ l4 n4 g4 m4, ExpRes l now l4 n4 g4 m4 := ⟨_, _, _, _, rfl, rfl, rfl, rfl⟩
theorem expN_any {next : Int} {l : List Ask} {a : Option Addr} {n cap : Nat} {now : Int} {w : World} {l4 g4 : List Ask} {n4 m4 : Nat} (hr : ExpRes l now l4 n4 g4 m4) (h : Asks w a n cap l) (hn : n ≤ 100000) (hnd : (Keys l).Nodup) :
    Calls Try.prog 23 #[.agg #[.int .i64 next, .slice a n cap], .int .i64 now] w (StGone w next l4 n4 g4 m4) := by
  obtain ⟨rfl, rfl, rfl, rfl⟩ := hr
  exact expN next l a n cap now w h hn hnd
theorem expR_any {next : Int} {l : List Ask} {a : Option Addr} {n cap : Nat} {now : Int} {w : World} {l4 g4 : List Ask} {n4 m4 : Nat} (hr : ExpRes l now l4 n4 g4 m4) (h : Asks w a n cap l) (hn : n ≤ 100000) :
    Calls Try.prog 24 #[.agg #[.int .i64 next, .slice a n cap], .int .i64 now] w (StGone w next l4 n4 g4 m4) := by
  obtain ⟨rfl, rfl, rfl, rfl⟩ := hr
  exact expR next l a n cap now w h hn
theorem askSame_refl {next : Int} {l : List Ask} {a b : Option Addr} {n ca cb : Nat} {w : World} (hx : Asks w a n ca l) (hy : Asks w b n cb l) :
    Calls Try.prog 20 #[.agg #[.int .i64 next, .slice a n ca], .agg #[.int .i64 next, .slice b n cb]] w (RV w (.bool true)) := by
  have := askSame next next l l a b n n ca cb w hx hy
  have he : eqA next next l l = true := by simp [eqA]
  rwa [he] at this
end Go.Proofs.Ytoninfccmonaiaa
