/-
  A value among the arguments ('Ar'), what may be asked of it in every later world, and two boxed ones. Not a statement of the seat.
-/
import Derived.Test.YtofpdhkdnbnobaaDoorSame
import Derived.Test.YtofpdhkdnbnobaaDoorRound
namespace Go.Proofs.YtofpdhkdnbnobaaDoor
open Go.RowKit

/-- a value among the arguments -/
def av (d : Dt) (l : Option Addr) (n c : Nat) : Value := .agg #[.int .i64 d.k, .int .i64 d.i, .int .u64 d.b, .string ⟨d.t.toArray⟩, .slice l n c]
structure Ar (S : Nat → Prop) (w : World) (d : Dt) (l : Option Addr) (n c : Nat) : Prop where
  at' : FoAt S w d.l l n c
  lt : ∀ x, S x → x < w.heap.size

/-- how long a valid value's text may be -/
theorem wt_right : ∀ f : Fo, rightM f = true → f.wt ≤ sizeF f * 262250
  | .nil, _ => by simp [Fo.wt]
  | .cons k i b t kids rest, h => by
    simp only [rightM, Bool.and_eq_true] at h
    have h1 := wt_right kids h.1.2
    have h2 := wt_right rest h.2
    have h3 : t.length ≤ 65535 := by
      have := h.1.1
      simp only [fitsM, Bool.and_eq_true, decide_eq_true_eq] at this
      omega
    simp only [Fo.wt, sizeF]
    omega
theorem wt_ok {d : Dt} (h : okD d) : d.fo.wt ≤ 1100000000 := by
  obtain ⟨h1, _, h3⟩ := h
  have := wt_right d.fo h3
  have hs : sizeF d.fo = 1 + sizeF d.l := by simp [Dt.fo, sizeF]
  omega
theorem wt_big {d : Dt} (h : okD d) : d.fo.wt ≤ big := by
  have := wt_ok h
  unfold big
  omega
theorem rvalid_ok {d : Dt} (h : rvalidM d = true) : okD d := by
  by_cases hk : okD d
  · exact hk
  · rw [(valid_bad hk).2] at h; cases h

section
variable {S : Nat → Prop} {w wx : World} {d : Dt} {l : Option Addr} {n c : Nat}
theorem Ar.below (h : Ar S w d l n c) (hx : Below w.heap.size w wx) : Ar S wx d l n c :=
  ⟨h.at'.same (fun x _ hlt => hx.block x hlt) (fun _ hx2 _ => hx2), fun x hx2 => Nat.lt_of_lt_of_le (h.lt x hx2) hx.size⟩
theorem Ar.len (h : Ar S w d l n c) : d.l.len = n := h.at'.len
theorem Ar.valid (h : Ar S w d l n c) : Calls Tryd.prog 12 #[.agg #[.int .i64 d.k, .int .i64 d.i, .int .u64 d.b, .string ⟨d.t.toArray⟩, .slice l n c]] w (fun e w' => e = .returned (.bool (rvalidM d)) ∧ Below w.heap.size w w') := rvalidN h.at' h.lt
theorem Ar.print (h : Ar S w d l n c) (hL : Lb w) (hp : d.fo.plain) (ho : okD d) : Calls Tryd.prog 14 #[.agg #[.int .i64 d.k, .int .i64 d.i, .int .u64 d.b, .string ⟨d.t.toArray⟩, .slice l n c]] w (fun e w' => e = .returned (.string ⟨(printM d).toArray⟩) ∧ Below w.heap.size w w') :=
  printN h.at' h.lt hL hp (wt_big ho)
theorem Ar.same {d' : Dt} {l' : Option Addr} {n' c' : Nat} (h : Ar S w d l n c) (h' : Ar S w d' l' n' c') : Calls Tryd.prog 22 #[.agg #[.int .i64 d.k, .int .i64 d.i, .int .u64 d.b, .string ⟨d.t.toArray⟩, .slice l n c], .agg #[.int .i64 d'.k, .int .i64 d'.i, .int .u64 d'.b, .string ⟨d'.t.toArray⟩, .slice l' n' c']] w
    (fun e w' => e = .returned (.bool (headM d.k d.i d.b d.t n d'.k d'.i d'.b d'.t n' && sameM d.l d'.l)) ∧ Below w.heap.size w w') := sameG d.l _ _ _ _ _ _ _ _ _ _ _ _ _ _ _ S w h.at' h'.at' h.lt
theorem Ar.rsame {d' : Dt} {l' : Option Addr} {n' c' : Nat} (h : Ar S w d l n c) (h' : Ar S w d' l' n' c') : Calls Tryd.prog 17 #[.agg #[.int .i64 d.k, .int .i64 d.i, .int .u64 d.b, .string ⟨d.t.toArray⟩, .slice l n c], .agg #[.int .i64 d'.k, .int .i64 d'.i, .int .u64 d'.b, .string ⟨d'.t.toArray⟩, .slice l' n' c']] w
    (fun e w' => e = .returned (.bool (headM d.k d.i d.b d.t n d'.k d'.i d'.b d'.t n' && sameM d.l d'.l)) ∧ Below w.heap.size w w') := rsameG d.l _ _ _ _ _ _ _ _ _ _ _ _ _ _ _ S w h.at' h'.at' h.lt
end

/-- the same, by the parts, means equal -/
theorem same_iff {a b : Dt} {na nb : Nat} (ha : a.l.len = na) (hb : b.l.len = nb) : (headM a.k a.i a.b a.t na b.k b.i b.b b.t nb && sameM a.l b.l) = true ↔ a = b := by
  subst ha hb
  rw [Bool.and_eq_true, sameM_eq]
  simp only [headM, Bool.and_eq_true, beq_iff_eq]
  constructor
  · rintro ⟨⟨h1, h2, h3, h4, _⟩, h5⟩
    cases a; cases b
    simp_all
  · rintro rfl
    exact ⟨⟨rfl, rfl, rfl, rfl, rfl⟩, rfl⟩
theorem same_print {a b : Dt} {na nb : Nat} (ha : okD a) (hpa : a.fo.plain) (hb : okD b) (hpb : b.fo.plain) (hna : a.l.len = na) (hnb : b.l.len = nb) :
    (headM a.k a.i a.b a.t na b.k b.i b.b b.t nb && sameM a.l b.l) = (printM a == printM b) := by
  cases h : (printM a == printM b)
  · cases h2 : (headM a.k a.i a.b a.t na b.k b.i b.b b.t nb && sameM a.l b.l)
    · rfl
    · have := (same_iff hna hnb).1 h2
      subst this
      simp at h
  · rw [beq_iff_eq] at h
    exact (same_iff hna hnb).2 (print_inj ha hpa hb hpb h)

/-- two boxed arguments -/
def twoW (w : World) (a b : Dt) (la lb : Option Addr) (na ca nb cb : Nat) : World := boxD (boxD w a la na ca) b lb nb cb
theorem two_boxes (w : World) (a b : Dt) (la lb : Option Addr) (na ca nb cb : Nat) : Blk (twoW w a b la lb na ca nb cb) w.heap.size (vsD a la na ca) ∧ Blk (twoW w a b la lb na ca nb cb) (w.heap.size + 1) (vsD b lb nb cb) ∧ Below w.heap.size w (twoW w a b la lb na ca nb cb) := by
  refine ⟨(boxD_blk w a la na ca).alloc _, ?_, (boxD_below w a la na ca).trans ((boxD_below _ b lb nb cb).mono (by simp [boxD]))⟩
  have := boxD_blk (boxD w a la na ca) b lb nb cb
  rw [show (boxD w a la na ca).heap.size = w.heap.size + 1 by simp [boxD]] at this
  exact this
def Box5 (w : World) (p : Nat) (d : Dt) (l : Option Addr) (n c : Nat) : Prop :=
  w.cell? ⟨p, 0, none⟩ = some (.int .i64 d.k) ∧ w.cell? ⟨p, 1, none⟩ = some (.int .i64 d.i) ∧ w.cell? ⟨p, 2, none⟩ = some (.int .u64 d.b) ∧ w.cell? ⟨p, 3, none⟩ = some (.string ⟨d.t.toArray⟩) ∧ w.cell? ⟨p, 4, none⟩ = some (.slice l n c)
theorem Box5.of {w : World} {p : Nat} {d : Dt} {l : Option Addr} {n c : Nat} (h : Blk w p (vsD d l n c)) : Box5 w p d l n c := ⟨h.cell 0 rfl, h.cell 1 rfl, h.cell 2 rfl, h.cell 3 rfl, h.cell 4 rfl⟩
theorem keep_of {w : World} {p q : Nat} {a b : Dt} {la lb : Option Addr} {na ca nb cb : Nat} (h : Blk w p (vsD a la na ca)) (h' : Blk w q (vsD b lb nb cb)) : ∀ wx, Below w.heap.size w wx → Box5 wx p a la na ca ∧ Box5 wx q b lb nb cb :=
  fun _ hx => ⟨.of (h.below hx), .of (h'.below hx)⟩
end Go.Proofs.YtofpdhkdnbnobaaDoor
