/- What a parked node's best outcomes are kept in: a map from states (tick, tokens) to outcomes (energy, wakes). No condition beyond those named. -/
import Derived.Test.YtiglkpgoakibaabPlayW
import Derived.DeepKeys4
import Derived.Maps.OwnSet
import Derived.Maps.Views
namespace Go.Proofs.Ytiglkpgoakibaab
open Go.RowKit Go.Maps PTopRegrouped Go.Proofs.YtiglkpgoakibaabW.PrintWords

theorem law79 : Keyed Try.prog 79 := Keyed.of_law (deep_law_laid (by kernel_rfl) (m := 2) (by decide) (by decide) (by kernel_rfl) (by kernel_rfl))
/-- A state, as a key. -/
@[reducible] def stV (t k : Int) : Value := .agg #[.int .i64 t, .int .i64 k]
def stL (t k : Int) : Lit := .string (keyBytes [.int .i64 t, .int .i64 k])
theorem stL_of {t k : Int} (ht : 0 ≤ t ∧ t ≤ 100000) (hk : 0 ≤ k ∧ k ≤ 100000) : keyOf Try.prog 79 (stV t k) = some (stL t k) := by
  have h1 : Try.prog.keyType 79 = true := by kernel_rfl
  have w1 : (Lit.int .i64 t).wf = true := WalkArith.wf_i64 (by omega)
  have w2 : (Lit.int .i64 k).wf = true := WalkArith.wf_i64 (by omega)
  have hs : ∃ m, Try.prog.types.size = m + 1 := ⟨_, rfl⟩
  obtain ⟨m, hm⟩ := hs
  have hc : Try.prog.cellsOf 79 = 2 := by kernel_rfl
  have hc3 : Try.prog.cellsOf 3 = 1 := by kernel_rfl
  unfold keyOf
  simp only [Try.underlying79]
  rw [if_pos (by simp [h1, Value.formed, Try.underlying79, hc, stV]), hm]
  unfold Program.keyLits
  simp only [Try.underlying79, stV, Value.cells]
  rw [if_pos (by simp [hc])]
  simp [hc3, Program.keyLits, Try.underlying3, w1, w2, stL]
end Go.Proofs.Ytiglkpgoakibaab
