/- What Play, Asked and Fail answer, on lists. Plain words. No condition. -/
import Derived.Test.YtiglkpgoakibaabBeg
namespace Go.Proofs.Ytiglkpgoakibaab
open Go.RowKit Go.Shelf PTopRegrouped Go.Proofs.YtiglkpgoakibaabW.PrintWords

theorem begErr_zero {G T : Int} {l : List S31} {ls : List Ng} (h : begErr G T l ls = 0) : 0 ≤ T ∧ T ≤ 1000 ∧ ls.length ≤ 200 ∧ ∀ x ∈ ls, rightF G T l x = true := by
  unfold begErr at h
  split at h
  · rename_i hw
    obtain ⟨h0, h1⟩ := win_iff.1 hw
    split at h
    · omega
    · rename_i hn
      simp only [Bool.or_eq_true, decide_eq_true_eq, List.any_eq_true, not_or, not_exists, not_and] at hn
      refine ⟨h0, h1, by omega, fun x hx => ?_⟩
      have := hn.2 x hx
      simpa using this
  · omega

/-- Bit i of a row. -/
def bitB (r : Int) (i : Nat) : Bool := Go.bits .and .i64 (r / 2 ^ i) 1 == 1
def enAdd (row : Int) (s : S31) (j : Nat) : Int := if bitB row j then s.f1 else s.f2
/-- The energies when j nodes of a row have been added. -/
def enStep (row : Int) (l : List S31) (en : List Int) : Nat → List Int
  | 0 => en
  | j + 1 => match l[j]? with
    | some s => (enStep row l en j).set j (wrap64 ((enStep row l en j).getD j 0 + enAdd row s j))
    | none => enStep row l en j
theorem enStep_length (row : Int) (l : List S31) (en : List Int) (j : Nat) : (enStep row l en j).length = en.length := by
  induction j with
  | zero => rfl
  | succ j ih =>
    unfold enStep
    split
    · rw [List.length_set]; exact ih
    · exact ih
/-- The energies when k rows have been added. -/
def enTo (rows : List Int) (l : List S31) : Nat → List Int
  | 0 => List.replicate l.length 0
  | k + 1 => enStep (rows.getD k 0) l (enTo rows l k) l.length
theorem enTo_length (rows : List Int) (l : List S31) (k : Nat) : (enTo rows l k).length = l.length := by
  induction k with
  | zero => simp [enTo]
  | succ k ih => rw [enTo, enStep_length, ih]

/-- In a tick a node is asleep though it is asked for. -/
def failB (a r : Int) (s : S31) (i : Nat) : Bool := (Go.bits .and .i64 s.f0 a != 0) && (Go.bits .and .i64 (r / 2 ^ i) 1 == 0)
def failAt (asked rows : List Int) (l : List S31) (k : Nat) : Prop := ∃ i s, l[i]? = some s ∧ failB (asked.getD k 0) (rows.getD k 0) s i = true
def failT (asked rows : List Int) (l : List S31) (t : Int) : Prop :=
  (∃ k : Nat, k < rows.length ∧ t = k ∧ failAt asked rows l k ∧ ∀ j, j < k → ¬ failAt asked rows l j) ∨ (t = -1 ∧ ∀ k, k < rows.length → ¬ failAt asked rows l k)
theorem failT_eq {asked rows asked' rows' : List Int} {l l' : List S31} {t t' : Int} (hl : rows'.length = rows.length) (h : ∀ k, k < rows.length → (failAt asked rows l k ↔ failAt asked' rows' l' k)) (h1 : failT asked rows l t) (h2 : failT asked' rows' l' t') : t = t' := by
  rcases h1 with ⟨k, hk, rfl, hf, hn⟩ | ⟨rfl, hn⟩ <;> rcases h2 with ⟨k', hk', rfl, hf', hn'⟩ | ⟨rfl, hn'⟩
  · rcases Nat.lt_trichotomy k k' with h' | rfl | h'
    · exact absurd ((h k hk).1 hf) (hn' k h')
    · rfl
    · exact absurd ((h k' (by omega)).2 hf') (hn k' h')
  · exact absurd ((h k hk).1 hf) (hn' k (by omega))
  · exact absurd ((h k' (by omega)).2 hf') (hn k' (by omega))
  · rfl
theorem Ints.lower {w : World} {base base' : Nat} {v : Value} {xs : List Int} (h : Ints w base v xs) (hb : base' ≤ base) : Ints w base' v xs := own_weaken h hb
end Go.Proofs.Ytiglkpgoakibaab
