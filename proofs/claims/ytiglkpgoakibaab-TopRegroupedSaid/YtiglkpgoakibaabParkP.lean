/- What noise can do to a parked node: the best outcome from a state on. Plain words. No condition. -/
import Derived.Test.YtiglkpgoakibaabMemo
namespace Go.Proofs.Ytiglkpgoakibaab
open Go.RowKit PTopRegrouped Go.Proofs.YtiglkpgoakibaabW.PrintWords

/-- The tokens behind the beginning of a tick. -/
def refT (s : S31) (t : Nat) (k : Int) : Int := if 0 < (t : Int) ∧ (t : Int) % s.f4 = 0 then min (k + 1) s.f3 else k
/-- The tokens when a woken node has gone m ticks further. -/
def wkTok (s : S31) (t : Nat) (k : Int) : Nat → Int
  | 0 => refT s t k - 1
  | m + 1 => refT s (t + 1 + m) (wkTok s t k m)
/-- .. and what it has taken. -/
def wkEn (s : S31) (hold : Nat) : Nat → Int
  | 0 => s.f1
  | m + 1 => wrap64 (wkEn s hold m + if m + 1 < hold then s.f1 else s.f2)
def wkLen (hold T t : Nat) : Nat := min hold (T - 1 - t)
def andO (a b : Int × Int) : Int × Int := (wrap64 (a.1 + b.1), wrap64 (a.2 + b.2))
/-- a is better than b. -/
def betO (a b : Int × Int) : Bool := if a.1 < b.1 then false else if b.1 < a.1 then true else decide (a.2 < b.2)

def bestF (s : S31) (hold T : Nat) (t : Nat) (k : Int) : Int × Int :=
  if _h : T ≤ t then (0, 0) else
    let b := andO (bestF s hold T (t + 1) (refT s t k)) (s.f2, 0)
    if refT s t k = 0 then b else
      let x := andO (bestF s hold T (t + 1 + wkLen hold T t) (wkTok s t k (wkLen hold T t))) (wkEn s hold (wkLen hold T t), 1)
      if betO x b then x else b
termination_by T - t

/-- A node's numbers, as a check lets them in. -/
structure PkOk (s : S31) : Prop where
  b0 : 0 ≤ s.f3
  b1 : s.f3 ≤ 20
  r0 : 1 ≤ s.f4
  r1 : s.f4 ≤ 1000
theorem refT_in {s : S31} (h : PkOk s) (t : Nat) {k : Int} (h0 : 0 ≤ k) (h1 : k ≤ 20) : 0 ≤ refT s t k ∧ refT s t k ≤ 20 := by
  have := h.b0
  have := h.b1
  unfold refT
  split <;> omega
theorem wkTok_in {s : S31} (h : PkOk s) (t : Nat) {k : Int} (h0 : 0 ≤ k) (h1 : k ≤ 20) (hz : refT s t k ≠ 0) (m : Nat) : 0 ≤ wkTok s t k m ∧ wkTok s t k m ≤ 20 := by
  induction m with
  | zero =>
    have := refT_in h t h0 h1
    unfold wkTok
    omega
  | succ m ih => exact refT_in h _ ih.1 ih.2
theorem pk_of {G : Int} {x : S31} (h : nodeB G x = true) : PkOk x := by
  unfold nodeB at h
  simp only [Bool.and_eq_true, win_iff] at h
  exact ⟨by omega, by omega, by omega, by omega⟩
theorem or_less : cmp_Or_int.f 5 [0, -1] = some (-1) := by kernel_rfl
theorem or_more : cmp_Or_int.f 5 [0, 1] = some 1 := by kernel_rfl
theorem or_same : cmp_Or_int.f 5 [0, 0] = some 0 := by kernel_rfl
theorem betO_eq (a b : Int × Int) : sleep_outcome_better.f 5 a.1 a.2 b.1 b.2 = some (betO a b) := by
  obtain ⟨a1, a2⟩ := a
  obtain ⟨b1, b2⟩ := b
  have hn : ∀ x, cmp_isNaN_int.f x = some false := fun x => by simp [cmp_isNaN_int.f]
  unfold sleep_outcome_better.f cmp_Compare_int.f betO
  simp only [hn, Option.bind_some, Bool.false_eq_true, if_false]
  by_cases h1 : a1 < b1
  · simp only [if_pos h1, Option.bind_some]
    split <;> (try split) <;> rfl
  · by_cases h2 : a1 > b1
    · have h2' : b1 < a1 := h2
      simp only [if_neg h1, if_pos h2, if_pos h2', Option.bind_some]
      split <;> (try split) <;> rfl
    · have h2' : ¬ b1 < a1 := h2
      simp only [if_neg h1, if_neg h2, if_neg h2', Option.bind_some]
      by_cases h3 : b2 < a2
      · simp only [if_pos h3, Option.bind_some]
        rw [decide_eq_false (by omega), or_less]
        rfl
      · by_cases h4 : b2 > a2
        · simp only [if_neg h3, if_pos h4, Option.bind_some]
          rw [decide_eq_true (by omega), or_more]
          rfl
        · simp only [if_neg h3, if_neg h4, Option.bind_some]
          rw [decide_eq_false (by omega), or_same]
          rfl
end Go.Proofs.Ytiglkpgoakibaab
