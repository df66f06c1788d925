/- The example of the law, reckoned. No condition. -/
import Derived.Test.YtiglkpgoakibaabLasts
namespace Go.Proofs.Ytiglkpgoakibaab
open Go.RowKit PTopRegrouped Go.Proofs.YtiglkpgoakibaabW.PrintWords
def exL : List S31 := [⟨1, 10, 1, 1, 5⟩, ⟨3, 20, 2, 2, 10⟩, ⟨2, 30, 0, 0, 1⟩]
def exN : List Ng := [⟨1, 1, 1, 0⟩, ⟨2, 2, 1, 0⟩]
theorem ex_ok : ClOk 2 3 exL := clOk_iff.1 (by kernel_rfl)
theorem ex_beg : begErr 2 6 exL exN = 0 := by kernel_rfl
theorem ex_rows : rowsL 3 2 exN (exL.map newNd) 6 = [0, 3, 3, 3, 0, 0] := by kernel_rfl
theorem ex_en : enTo [0, 3, 3, 3, 0, 0] exL 6 = [33, 66, 0] := by kernel_rfl
theorem ex_choose : sleep_Choose.f 20 2 3 exL 6 = some (2, 51, 0) := by kernel_rfl
theorem ex_same1 : ignitiontop_sameInts.f 20 [0, 3, 3, 3, 0, 0] [0, 3, 3, 3, 0, 0] = some true := by kernel_rfl
theorem ex_same2 : ignitiontop_sameInts.f 20 [33, 66, 0] [33, 66, 0] = some true := by kernel_rfl
def bestN (s : S31) (hold T : Nat) : Nat → Nat → Int → Int × Int
  | 0, _, _ => (0, 0)
  | n + 1, t, k => if T ≤ t then (0, 0) else
    let b := andO (bestN s hold T n (t + 1) (refT s t k)) (s.f2, 0)
    if refT s t k = 0 then b else
      let x := andO (bestN s hold T n (t + 1 + wkLen hold T t) (wkTok s t k (wkLen hold T t))) (wkEn s hold (wkLen hold T t), 1)
      if betO x b then x else b
theorem bestN_eq (s : S31) (hold T : Nat) (n : Nat) : ∀ t k, T - t ≤ n → bestN s hold T n t k = bestF s hold T t k := by
  induction n with
  | zero => intro t k h; rw [bestN, bestF, dif_pos (by omega)]
  | succ n ih =>
    intro t k h
    rw [bestN, bestF]
    by_cases hge : T ≤ t
    · rw [if_pos hge, dif_pos hge]
    · rw [if_neg hge, dif_neg hge, ih (t + 1) _ (by omega), ih (t + 1 + wkLen hold T t) _ (by omega)]
theorem ex_parked : parkedR exL 3 8 = (186, 0) := by
  have h : sumTo exL 3 8 3 = 186 := by
    simp only [sumTo, exL, worstF, ← bestN_eq _ 3 8 8 0 _ (by omega), List.getElem?_cons_zero, List.getElem?_cons_succ]
    kernel_rfl
  unfold parkedR
  rw [if_pos (by decide)]
  exact Prod.ext h rfl
end Go.Proofs.Ytiglkpgoakibaab
