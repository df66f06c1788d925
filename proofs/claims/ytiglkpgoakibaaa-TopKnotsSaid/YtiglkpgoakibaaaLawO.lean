/- The law TopKnots outside its guards: the example is counted: the walk. Condition: a guard fails. -/
import Derived.Test.YtiglkpgoakibaaaFols
namespace Go.Proofs.Ytiglkpgoakibaaa
open Go.RowKit Go.Maps PTopKnots Go.Proofs.YtiglkpgoakibaaaW.PrintWords
set_option linter.unusedVariables false
set_option linter.unusedSimpArgs false

set_option maxRecDepth 100000 in
theorem law_out {w : World} {A0 A1 Af : Option Addr} {c0 c1 cf : Nat} {ns : List ByteArray} {rs : List (List Int)} {f : List Int} (h0 : Kd.C Kd.string w A0 ns.length ns) (hc0 : ns.length ≤ c0) (h1 : Kd.C (Kd.slice 3 (Kd.int .i64)) w A1 rs.length rs) (hc1 : rs.length ≤ c1)
    (hf : Kd.C (Kd.int .i64) w Af f.length f) (hcf : f.length ≤ cf) {r : Int} {b : Bool} (hr : ignitionref01_CheckModel.f 3000 ns rs = some r) (hb : ∀ k, 403 ≤ k → ignitionref01_Valid.f k f (ns.length : Int) = some b) (h : ¬ (ns.length ≤ 10 ∧ rs.length ≤ 10 ∧ f.length ≤ 40 ∧ r = 0 ∧ b = true)) :
    Calls Try.prog 3 #[.agg #[.slice A0 ns.length c0, .slice A1 rs.length c1], .slice Af f.length cf] w fun e w' => e = .returned (.bool true) ∧ Below w.heap.size w w' := by
  obtain ⟨m, hm⟩ : ∃ m, ns.length = m := ⟨_, rfl⟩
  obtain ⟨q, hq⟩ : ∃ q, rs.length = q := ⟨_, rfl⟩
  obtain ⟨l, hl⟩ : ∃ l, f.length = l := ⟨_, rfl⟩
  obtain ⟨w1, hw1⟩ : ∃ w1, w.alloc (.cells #[.slice A0 m c0, .slice A1 q c1] 25) = w1 := ⟨_, rfl⟩
  have hB1 : Below w.heap.size w w1 := by rw [← hw1]; exact (Below.refl _ w).alloc (Nat.le_refl _) _
  have k0 : w1.heap[w.heap.size]? = some (.cells #[.slice A0 m c0, .slice A1 q c1] 25 (0, 0)) := by rw [← hw1]; exact allocNew _ _ _ rfl
  have p0 : w1.cell? ⟨w.heap.size, 0, none⟩ = some (.slice A0 m c0) := (blk_cell' k0 0).trans rfl
  have p1 : w1.cell? ⟨w.heap.size, 1, none⟩ = some (.slice A1 q c1) := (blk_cell' k0 1).trans rfl
  have HC : Hid (Calls Try.prog 4 #[.agg #[.slice A0 m c0, .slice A1 q c1]] w1 fun e w' => e = .returned (.int .i64 r) ∧ Below w1.heap.size w1 w') := by
    have h := ignitionref01_CheckModel.calls 3000 A0 c0 ns A1 c1 rs r w1 (Kd.C_below h0 hB1) hc0 (Kd.C_below h1 hB1) hc1 hr
    rw [hm, hq] at h
    exact Lib.hid h
  have HV : Hid (∀ w2, Below w.heap.size w w2 → Calls Try.prog 5 #[.slice Af l cf, .int .i64 m] w2 fun e w' => e = .returned (.bool b) ∧ Drawn0 w2 w') := Lib.hid fun w2 h2 => by
    have h := ignitionref01_Valid.calls 403 Af cf f ns.length b w2 (Kd.C_below hf h2) hcf (hb 403 (Nat.le_refl _))
    rw [hm, hl] at h
    exact h
  have HG : Hid (¬ (m ≤ 10 ∧ q ≤ 10 ∧ l ≤ 40 ∧ r = 0 ∧ b = true)) := Lib.hid fun ⟨a1, a2, a3, a4, a5⟩ => h ⟨by omega, by omega, by omega, a4, a5⟩
  have HB1 := Lib.hid hB1
  have HCT : Hid (∀ W, Calls Try.prog 6 #[] W fun e w' => e = .returned (.bool true) ∧ Below W.heap.size W w') := Lib.hid counts_any
  rw [hm, hq, hl]
  clear hr hb h h0 h1 hf hc0 hc1 hcf k0 hB1 hm hq hl
  by_cases g1 : 10 < m
  · have d1 : decide ((10 : Int) < (m : Int)) = true := decide_eq_true (by omega)
    clear g1
    go_enter Try.func3, Try.ntmps3
    go_wp2_with fail
    refine (HCT.out _).mono ?_
    rintro e w2 ⟨rfl, h2⟩
    have HB2 := Lib.hid (HB1.out.trans (h2.mono HB1.out.size))
    clear h2
    go_wp2_with fail
    go_ret
    exact ⟨rfl, HB2.out⟩
  have d1 : decide ((10 : Int) < (m : Int)) = false := decide_eq_false (by omega)
  by_cases g2 : 10 < q
  · have d2 : decide ((10 : Int) < (q : Int)) = true := decide_eq_true (by omega)
    clear g1 g2
    go_enter Try.func3, Try.ntmps3
    go_wp2_with fail
    refine (HCT.out _).mono ?_
    rintro e w2 ⟨rfl, h2⟩
    have HB2 := Lib.hid (HB1.out.trans (h2.mono HB1.out.size))
    clear h2
    go_wp2_with fail
    go_ret
    exact ⟨rfl, HB2.out⟩
  have d2 : decide ((10 : Int) < (q : Int)) = false := decide_eq_false (by omega)
  by_cases g3 : 40 < l
  · have d3 : decide ((40 : Int) < (l : Int)) = true := decide_eq_true (by omega)
    clear g1 g2 g3
    go_enter Try.func3, Try.ntmps3
    go_wp2_with fail
    refine (HCT.out _).mono ?_
    rintro e w2 ⟨rfl, h2⟩
    have HB2 := Lib.hid (HB1.out.trans (h2.mono HB1.out.size))
    clear h2
    go_wp2_with fail
    go_ret
    exact ⟨rfl, HB2.out⟩
  have d3 : decide ((40 : Int) < (l : Int)) = false := decide_eq_false (by omega)
  have HG2 : Hid (¬ (r = 0 ∧ b = true)) := Lib.hid fun ⟨a, c⟩ => HG.out ⟨by omega, by omega, by omega, a, c⟩
  clear g1 g2 g3 HG
  by_cases g4 : r = 0
  · have hb : b = false := by
      cases b
      · rfl
      · exact absurd ⟨g4, rfl⟩ HG2.out
    subst hb
    subst g4
    clear HG2
    go_enter Try.func3, Try.ntmps3
    go_wp2_with fail
    refine HC.out.mono ?_
    rintro e w2 ⟨rfl, h2⟩
    have HB2 := Lib.hid (HB1.out.trans (h2.mono HB1.out.size))
    have p0 : w2.cell? ⟨w.heap.size, 0, none⟩ = some (.slice A0 m c0) := pw_cell_below h2 p0
    have p1 : w2.cell? ⟨w.heap.size, 1, none⟩ = some (.slice A1 q c1) := pw_cell_below h2 p1
    have HV2 := Lib.hid (HV.out w2 HB2.out)
    clear h2
    go_wp2_with fail
    refine HV2.out.mono ?_
    rintro e w3 ⟨rfl, h3⟩
    have HB3 := Lib.hid (HB2.out.trans (h3.below.mono HB2.out.size))
    clear h3
    go_wp2_with fail
    refine (HCT.out _).mono ?_
    rintro e w4 ⟨rfl, h4⟩
    have HB4 := Lib.hid (HB3.out.trans (h4.mono HB3.out.size))
    clear h4
    go_wp2_with fail
    go_ret
    exact ⟨rfl, HB4.out⟩
  · have d4 : (r != 0) = true := by simpa using g4
    clear HG2
    go_enter Try.func3, Try.ntmps3
    go_wp2_with fail
    refine HC.out.mono ?_
    rintro e w2 ⟨rfl, h2⟩
    have HB2 := Lib.hid (HB1.out.trans (h2.mono HB1.out.size))
    clear h2
    go_wp2_with fail
    refine (HCT.out _).mono ?_
    rintro e w4 ⟨rfl, h4⟩
    have HB4 := Lib.hid (HB2.out.trans (h4.mono HB2.out.size))
    clear h4
    go_wp2_with fail
    go_ret
    exact ⟨rfl, HB4.out⟩
end Go.Proofs.Ytiglkpgoakibaaa
