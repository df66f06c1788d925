/- What a formula says of a variant, and which formulas are valid. Plain lists. No condition beyond those named. -/
import Derived.Test.YtiglkpgoakibaaaJoin
namespace Go.Proofs.Ytiglkpgoakibaaa
set_option linter.unusedVariables false
set_option linter.unusedSimpArgs false

/-- How many operands a sign takes. -/
def opn (x : Int) : Nat := if x = -3 then 1 else if x = -4 ∨ x = -5 ∨ x = -6 then 2 else 0
/-- One sign, gone through from the end: the stack, its top first. -/
def fstep (v : Nat → Bool) (x : Int) (st : List Bool) : List Bool :=
  if x = -1 then true :: st else if x = -2 then false :: st else if x = -3 then (!(st.headD false)) :: st.tail
  else if x = -4 ∨ x = -5 ∨ x = -6 then opB x (st.headD false) (st.tail.headD false) :: st.tail.tail else v x.toNat :: st
def fstk (v : Nat → Bool) : List Int → List Bool
  | [] => []
  | x :: f => fstep v x (fstk v f)
/-- What a formula says. -/
def fsem (f : List Int) (v : Nat → Bool) : Bool := (fstk v f).headD false
/-- The height of the stack. -/
def hgt : List Int → Nat
  | [] => 0
  | x :: f => hgt f - opn x + 1
/-- Each sign finds its operands, each option is one of N. -/
def okF (N : Nat) : List Int → Prop
  | [] => True
  | x :: f => okF N f ∧ opn x ≤ hgt f ∧ -6 ≤ x ∧ x < N
structure Vd (N : Nat) (f : List Int) : Prop where
  ok : okF N f
  one : hgt f = 1
  len : f.length ≤ 100
theorem fstep_len (v : Nat → Bool) (x : Int) (st : List Bool) (h : opn x ≤ st.length) : (fstep v x st).length = st.length - opn x + 1 := by
  unfold fstep opn at *
  by_cases h1 : x = -1
  · subst h1; simp
  · by_cases h2 : x = -2
    · subst h2; simp
    · by_cases h3 : x = -3
      · subst h3; simp
      · rw [if_neg h1, if_neg h2, if_neg h3]
        rw [if_neg h3] at h ⊢
        by_cases h4 : x = -4 ∨ x = -5 ∨ x = -6
        · rw [if_pos h4] at h ⊢
          rw [if_pos h4]
          simp
          omega
        · rw [if_neg h4] at h ⊢
          rw [if_neg h4]
          simp
theorem fstk_len {N : Nat} (v : Nat → Bool) : ∀ f, okF N f → (fstk v f).length = hgt f
  | [], _ => rfl
  | x :: f, h => by
    obtain ⟨h1, h2, _⟩ := h
    have ih := fstk_len v f h1
    rw [fstk, fstep_len v x _ (by rw [ih]; exact h2), ih, hgt]
theorem okF_drop {N : Nat} : ∀ (f : List Int) (i : Nat), okF N f → okF N (f.drop i)
  | [], i, _ => by rw [List.drop_nil]; trivial
  | x :: f, 0, h => h
  | x :: f, i + 1, h => okF_drop f i h.1
theorem okF_at {N : Nat} {f : List Int} (h : okF N f) {i : Nat} {x : Int} (hx : f[i]? = some x) : opn x ≤ hgt (f.drop (i + 1)) ∧ -6 ≤ x ∧ x < N := by
  have hi := (List.getElem?_eq_some_iff.1 hx).1
  have h1 := okF_drop f i h
  rw [List.drop_eq_getElem_cons hi] at h1
  have h2 : f[i] = x := by rw [List.getElem?_eq_getElem hi] at hx; exact Option.some.inj hx
  rw [h2] at h1
  exact h1.2
theorem drop_at {f : List Int} {i : Nat} {x : Int} (hx : f[i]? = some x) : f.drop i = x :: f.drop (i + 1) := by
  have hi := (List.getElem?_eq_some_iff.1 hx).1
  have h2 : f[i] = x := by rw [List.getElem?_eq_getElem hi] at hx; exact Option.some.inj hx
  rw [List.drop_eq_getElem_cons hi, h2]
theorem fsem_not {f : List Int} (v : Nat → Bool) : fsem (-3 :: f) v = !(fsem f v) := by
  unfold fsem
  rw [fstk, fstep, if_neg (by decide), if_neg (by decide), if_pos rfl]
  rfl
theorem Vd.not {N : Nat} {f : List Int} (h : Vd N f) (hl : f.length ≤ 99) : Vd N (-3 :: f) := by
  have h1 := h.one
  refine ⟨⟨h.ok, by rw [h1]; decide, by decide, by omega⟩, ?_, by simp; omega⟩
  rw [hgt, h1]
  rfl
theorem hgt_pos : ∀ f : List Int, f ≠ [] → 1 ≤ hgt f
  | [], h => absurd rfl h
  | x :: f, _ => by rw [hgt]; omega
theorem hgt_le : ∀ f : List Int, hgt f ≤ f.length
  | [] => Nat.le_refl _
  | x :: f => by have := hgt_le f; rw [hgt, List.length_cons]; omega

/-- The looks from the left: how many terms are still wanted. -/
def wnt : Nat → List Int → Option Nat
  | n, [] => some n
  | n, x :: f => if n = 0 then none else wnt (n + opn x - 1) f
theorem wnt_hgt : ∀ (f : List Int) (n : Nat), wnt n f = some 0 → hgt f = n ∧ ∀ N : Nat, (∀ x ∈ f, -6 ≤ x ∧ x < (N : Int)) → okF N f := by
  intro f
  induction f with
  | nil =>
    intro n h
    simp only [wnt, Option.some.injEq] at h
    exact ⟨by rw [hgt, h], fun _ _ => trivial⟩
  | cons x f ih =>
    intro n h
    rw [wnt] at h
    by_cases h0 : n = 0
    · rw [if_pos h0] at h; cases h
    · rw [if_neg h0] at h
      obtain ⟨h1, h2⟩ := ih _ h
      refine ⟨by rw [hgt, h1]; omega, fun N hx => ⟨h2 N (fun y hy => hx y (List.mem_cons_of_mem _ hy)), by rw [h1]; omega, hx x List.mem_cons_self⟩⟩
end Go.Proofs.Ytiglkpgoakibaaa
