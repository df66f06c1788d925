/- What a valid cluster is, and that the checks say so. Plain words. No condition beyond those named. -/
import Derived.Test.YtiglkpgoakibaabPTopRegroupedx1
import Derived.Test.YtiglkpgoakibaabPTopRegroupedx2
import Derived.Test.YtiglkpgoakibaabPTopRegroupedx3
import Derived.Test.YtiglkpgoakibaabPTopRegroupedx4
import Derived.Test.YtiglkpgoakibaabPTopRegroupedx5
import Derived.Test.YtiglkpgoakibaabChk
namespace Go.Proofs.Ytiglkpgoakibaab
open Go.RowKit PTopRegrouped Go.Proofs.YtiglkpgoakibaabW.PrintWords

def nodeB (G : Int) (x : S31) : Bool := win x.f0 0 (2 ^ G.toNat - 1) && (win x.f1 0 10000 && (win x.f2 0 x.f1 && (win x.f3 0 20 && win x.f4 1 1000)))
def clB (G H : Int) (l : List S31) : Bool := win G 1 8 && (win H 1 100 && (decide (l.length ≤ 16) && l.all (nodeB G)))

theorem ref_within (a b c : Int) : ignitionref09_within.f a b c = some (win a b c) := by
  unfold ignitionref09_within.f win
  by_cases h : b ≤ a <;> simp [h]
theorem sleep_within' (a b c : Int) : sleep_within.f a b c = some (win a b c) := by
  unfold sleep_within.f win
  by_cases h : b ≤ a <;> simp [h]
theorem eight {P : Int → Prop} (h1 : P 1) (h2 : P 2) (h3 : P 3) (h4 : P 4) (h5 : P 5) (h6 : P 6) (h7 : P 7) (h8 : P 8) {G : Int} (g0 : 1 ≤ G) (g1 : G ≤ 8) : P G := by
  have : G = 1 ∨ G = 2 ∨ G = 3 ∨ G = 4 ∨ G = 5 ∨ G = 6 ∨ G = 7 ∨ G = 8 := by omega
  rcases this with rfl | rfl | rfl | rfl | rfl | rfl | rfl | rfl <;> assumption
theorem top_sleep {G : Int} (g0 : 1 ≤ G) (g1 : G ≤ 8) : wrap64 (shl .i64 1 G - 1) = 2 ^ G.toNat - 1 :=
  eight (P := fun G => wrap64 (shl .i64 1 G - 1) = 2 ^ G.toNat - 1) (by kernel_rfl) (by kernel_rfl) (by kernel_rfl) (by kernel_rfl) (by kernel_rfl) (by kernel_rfl) (by kernel_rfl) (by kernel_rfl) g0 g1
theorem wrapu {G : Int} (g0 : 1 ≤ G) (g1 : G ≤ 8) : IntKind.u64.wrap G = G :=
  eight (P := fun G => IntKind.u64.wrap G = G) (by kernel_rfl) (by kernel_rfl) (by kernel_rfl) (by kernel_rfl) (by kernel_rfl) (by kernel_rfl) (by kernel_rfl) (by kernel_rfl) g0 g1
theorem rd_at {l : List S31} {i : Nat} {x : S31} (h : l[i]? = some x) : rd_T31 l (i : Int) = x := by
  unfold rd_T31
  rw [Int.toNat_natCast, List.getD_eq_getElem?_getD, h]
  rfl

theorem ref_l0 (G H : Int) (g0 : 1 ≤ G) (g1 : G ≤ 8) (l : List S31) (hl : l.length ≤ 1000) (m : Nat) : ∀ i : Nat, i + m = l.length → ignitionref09_Check.l0 (m + 1) i G H l = some (if (l.drop i).all (nodeB G) then 0 else 90) := by
  induction m with
  | zero =>
    intro i hi
    rw [ignitionref09_Check.l0, if_neg (by omega), List.drop_eq_nil_of_le (by omega)]
    rfl
  | succ m ih =>
    intro i hi
    have hlt : i < l.length := by omega
    rw [ignitionref09_Check.l0, if_pos (by omega), if_pos (by omega), wrapu g0 g1, if_pos (by omega), top_sleep g0 g1, rd_at (List.getElem?_eq_getElem hlt), List.drop_eq_getElem_cons hlt, List.all_cons]
    have hw : wrap64 ((i : Int) + 1) = ((i + 1 : Nat) : Int) := by unfold wrap64; omega
    rw [hw]
    simp only [ref_within, Option.bind_some, ih (i + 1) (by omega)]
    unfold nodeB
    cases win l[i].f0 0 (2 ^ G.toNat - 1) <;> cases win l[i].f1 0 10000 <;> cases win l[i].f2 0 l[i].f1 <;> cases win l[i].f3 0 20 <;> cases win l[i].f4 1 1000 <;> rfl

theorem ref_check (G H : Int) (l : List S31) : ignitionref09_Check.f (l.length + 2) G H l = some (if clB G H l then 0 else 90) := by
  unfold ignitionref09_Check.f clB
  rw [ref_within, ref_within]
  cases h1 : win G 1 8
  · rfl
  · obtain ⟨g0, g1⟩ := win_iff.1 h1
    cases h2 : win H 1 100
    · rfl
    · by_cases h3 : l.length ≤ 16
      · have h4 : decide ((l.length : Int) > 16) = false := decide_eq_false (by omega)
        simp only [Option.bind_some, if_pos, h4, decide_eq_true h3, Bool.true_and]
        have := ref_l0 G H g0 g1 l (by omega) l.length 0 (by omega)
        rw [ignitionref09_Check.j0, if_neg (by decide)]
        exact this
      · have h4 : decide ((l.length : Int) > 16) = true := decide_eq_true (by omega)
        simp only [Option.bind_some, if_pos, h4, decide_eq_false h3, Bool.true_and, Bool.false_and]
        rfl

theorem sleep_check {G H : Int} {l : List S31} (h : clB G H l = true) : sleep_Check.f (l.length + 2) G H l = some 0 := by
  unfold clB nodeB at h
  simp only [Bool.and_eq_true, win_iff, decide_eq_true_eq, List.all_eq_true] at h
  unfold sleep_Check.f
  refine if_pos ⟨⟨h.1, h.2.1, h.2.2.1, List.all_eq_true.2 (fun x hx => ?_)⟩, Nat.le_refl _⟩
  unfold sleep_Check.nd
  exact decide_eq_true (h.2.2.2 x hx)

theorem sleep_ticks {G H : Int} {l : List S31} (h : clB G H l = true) (T : Int) : sleep_checkTicks.f (l.length + 2) G H l T = some (if win T 0 1000 then 0 else 1) := by
  unfold sleep_checkTicks.f
  rw [sleep_check h, sleep_within']
  cases win T 0 1000 <;> rfl
theorem sleep_node {G H : Int} {l : List S31} (h : clB G H l = true) (i T : Int) : sleep_checkNode.f (l.length + 2) G H l i T = some (if win T 0 1000 && win i 0 (l.length - 1) then 0 else 1) := by
  have hl : l.length ≤ 16 := by
    unfold clB at h
    simp at h
    exact h.2.2.1
  have hw : wrap64 ((l.length : Int) - 1) = (l.length : Int) - 1 := by unfold wrap64; omega
  unfold sleep_checkNode.f
  rw [sleep_ticks h, sleep_within', hw]
  cases win T 0 1000 <;> cases win i 0 (l.length - 1) <;> rfl

/-- A valid cluster. -/
structure ClOk (G H : Int) (l : List S31) : Prop where
  G0 : 1 ≤ G
  G1 : G ≤ 8
  H0 : 1 ≤ H
  H1 : H ≤ 100
  len : l.length ≤ 16
  nd : ∀ x ∈ l, nodeB G x = true
theorem clOk_iff {G H : Int} {l : List S31} : clB G H l = true ↔ ClOk G H l := by
  unfold clB
  simp only [Bool.and_eq_true, win_iff, decide_eq_true_eq, List.all_eq_true]
  exact ⟨fun ⟨⟨a, b⟩, ⟨c, d⟩, e, f⟩ => ⟨a, b, c, d, e, f⟩, fun ⟨a, b, c, d, e, f⟩ => ⟨⟨a, b⟩, ⟨c, d⟩, e, f⟩⟩
end Go.Proofs.Ytiglkpgoakibaab
