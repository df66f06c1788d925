/- A branch of a knot (branch): the walk. Condition: the forest lies there, the knot is one of it. -/
import Derived.Test.YtiglkpgoakibaaaBase
namespace Go.Proofs.Ytiglkpgoakibaaa
open Go.RowKit Go.Maps PTopKnots Go.Proofs.YtiglkpgoakibaaaW.PrintWords
set_option linter.unusedVariables false
set_option linter.unusedSimpArgs false

set_option maxRecDepth 100000 in
theorem branch_any {w : World} {F : Fb} {N c : Nat} {K : List Kn} (hf : Fo w F N K c) {n : Nat} (hn : n < K.length) (o : Nat) (b : Bool) :
    Calls Try.prog 35 #[.pointer (some ⟨F.p, 0, none⟩), .int .i64 n, .int .i64 o, .bool b] w fun e w' => e = .returned (.int .i64 (br K n o b)) ∧ Below w.heap.size w w' := by
  obtain ⟨k, hk⟩ := hf.wf.get hn
  obtain ⟨c0, c1, c2⟩ := hf.cell hk
  have p1 : w.cell? ⟨F.p, 1, none⟩ = some (.slice (some ⟨F.kb, 0, none⟩) K.length F.cap) := (blk_cell' hf.box 1).trans rfl
  have hbr : br K n o b = if k.o = o then (if b then k.h else k.l) else n := by unfold br; rw [hk]
  have HB := Lib.hid hbr
  have hpl := hf.pl
  have hkl := hf.kl
  have hu71 := Try.underlying71
  clear hf hk hbr
  by_cases h1 : k.o = o
  · have h1' : (((k.o : Nat) : Int) != (o : Int)) = false := by simp [h1]
    have HO := Lib.hid h1
    clear h1
    cases b
    all_goals
      go_enter Try.func35, Try.ntmps35
      go_wp2
      go_ret
      exact ⟨by rw [HB.out, if_pos HO.out]; rfl, (Below.refl _ w).alloc (Nat.le_refl _) _⟩
  · have h1' : (((k.o : Nat) : Int) != (o : Int)) = true := by simp; omega
    have HO := Lib.hid h1
    clear h1
    go_enter Try.func35, Try.ntmps35
    go_wp2
    go_ret
    exact ⟨by rw [HB.out, if_neg HO.out]; rfl, (Below.refl _ w).alloc (Nat.le_refl _) _⟩
end Go.Proofs.Ytiglkpgoakibaaa
