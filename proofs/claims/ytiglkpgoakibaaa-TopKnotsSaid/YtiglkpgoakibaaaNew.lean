/- A new forest (newForest), the first variant (first): the walks. Conditions: those named. -/
import Derived.Test.YtiglkpgoakibaaaAll
namespace Go.Proofs.Ytiglkpgoakibaaa
open Go.RowKit Go.Maps PTopKnots Go.Proofs.YtiglkpgoakibaaaW.PrintWords
set_option linter.unusedVariables false
set_option linter.unusedSimpArgs false

def Ks0 (N : Nat) : List Kn := [⟨N, 0, 0⟩, ⟨N, 0, 0⟩]
theorem wf_0 (N : Nat) : WF N (Ks0 N) := ⟨rfl, rfl, fun i k hi hk => by
  have := (List.getElem?_eq_some_iff.1 hk).1
  simp [Ks0] at this
  omega⟩
def wN (w : World) (N : Nat) : World := (((w.alloc (.cells #[.int .i64 N, .int .i64 0, .int .i64 0, .int .i64 N, .int .i64 0, .int .i64 0] 71)).alloc (.map #[] 0)).alloc (.map #[] 0)).alloc (.cells #[.int .i64 N, .slice (some ⟨w.heap.size, 0, none⟩) 2 2, .map (some (w.heap.size + 1)), .map (some (w.heap.size + 2))] 76)
def FN (w : World) : Fb := ⟨w.heap.size + 3, w.heap.size, 2, w.heap.size + 1, w.heap.size + 2⟩
theorem new_fo (w : World) (N : Nat) : Fo (wN w N) (FN w) N (Ks0 N) 0 := by
  obtain ⟨w1, h1⟩ : ∃ w1, w.alloc (.cells #[.int .i64 N, .int .i64 0, .int .i64 0, .int .i64 N, .int .i64 0, .int .i64 0] 71) = w1 := ⟨_, rfl⟩
  have z1 : w1.heap.size = w.heap.size + 1 := by rw [← h1]; simp
  have r1 : w1.ownsRow 0 71 3 (.slice (some ⟨w.heap.size, 0, none⟩) 2 2) 2 ((Ks0 N).flatMap kcl) := by
    refine ⟨rfl, .inr ⟨w.heap.size, 2, _, rfl, Nat.zero_le _, by rw [← h1]; exact heap_alloc_new w _, Nat.le_refl _, by decide, rfl, rfl⟩⟩
  obtain ⟨w2, h2⟩ : ∃ w2, w1.alloc (.map #[] 0) = w2 := ⟨_, rfl⟩
  have z2 : w2.heap.size = w.heap.size + 2 := by rw [← h2]; simp; omega
  have s2 : Sound w2 71 (w.heap.size + 1) 0 (KS (Ks0 N)) := by
    rw [← h2, ← z1]
    exact Sound.made w1 71 _
  have b2 : Below w1.heap.size w1 w2 := by rw [← h2]; exact (Below.refl _ _).alloc (Nat.le_refl _) _
  obtain ⟨w3, h3⟩ : ∃ w3, w2.alloc (.map #[] 0) = w3 := ⟨_, rfl⟩
  have z3 : w3.heap.size = w.heap.size + 3 := by rw [← h3]; simp; omega
  have s3 : Sound w3 84 (w.heap.size + 2) 0 (JS (Ks0 N)) := by
    rw [← h3, ← z2]
    exact Sound.made w2 84 _
  have b3 : Below w2.heap.size w2 w3 := by rw [← h3]; exact (Below.refl _ _).alloc (Nat.le_refl _) _
  obtain ⟨w4, h4⟩ : ∃ w4, w3.alloc (.cells #[.int .i64 N, .slice (some ⟨w.heap.size, 0, none⟩) 2 2, .map (some (w.heap.size + 1)), .map (some (w.heap.size + 2))] 76) = w4 := ⟨_, rfl⟩
  have k4 : w4.heap[w.heap.size + 3]? = some (.cells #[.int .i64 N, .slice (some ⟨w.heap.size, 0, none⟩) 2 2, .map (some (w.heap.size + 1)), .map (some (w.heap.size + 2))] 76 (0, 0)) := by
    rw [← h4, ← z3]
    exact heap_alloc_new w3 _
  have b4 : Below w3.heap.size w3 w4 := by rw [← h4]; exact (Below.refl _ _).alloc (Nat.le_refl _) _
  have e : wN w N = w4 := by unfold wN; rw [h1, h2, h3, h4]
  rw [e]
  refine ⟨k4, own_below (own_below (own_below r1 b2) b3) b4, (s2.same (b3.block _ (by omega))).same (b4.block _ (by omega)), s3.same (b4.block _ (by omega)), wf_0 N, Nat.le_refl _, ?_, ?_, ?_, ?_, ?_, ?_⟩ <;> (simp only [FN]; omega)
theorem new_below (w : World) (N : Nat) : Below w.heap.size w (wN w N) := by
  unfold wN
  exact ((((Below.refl _ w).alloc (Nat.le_refl _) _).alloc (by simp) _).alloc (by simp; omega) _).alloc (by simp; omega) _
theorem new_abv (w : World) : Abv (FN w) w.heap.size := ⟨by simp [FN], by simp [FN], by simp [FN], by simp [FN]⟩
theorem run_mm (t : TypeId) (w : World) : (Instr.makeMap t none).run Try.prog w = .ok (.map (some w.heap.size)) (w.alloc (.map #[] 0)) := rfl
attribute [local go_sem] run_mm
theorem new_any (w : World) (N : Nat) : Calls Try.prog 28 #[.int .i64 N] w fun e w' => e = .returned (.pointer (some ⟨(FN w).p, 0, none⟩)) ∧ w' = wN w N := by
  go_enter Try.func28, Try.ntmps28
  go_wp2_with fail

  go_ret
  exact ⟨by simp [FN], by simp [wN]⟩
end Go.Proofs.Ytiglkpgoakibaaa
