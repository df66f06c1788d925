/- Lasts: the walk. Conditions: the cluster is valid. -/
import Derived.Test.YtiglkpgoakibaabParks
namespace Go.Proofs.Ytiglkpgoakibaab
open Go.RowKit Go.Shelf PTopRegrouped Go.Proofs.YtiglkpgoakibaabW.PrintWords Go.Proofs.YtiglkpgoakibaabW.PrintLast
attribute [local go_sem] Oper.semAt_some
set_option linter.unusedSimpArgs false

/-- The last n with f n ≤ C, halved. -/
def bsF (f : Nat → Int) (C : Int) (low high : Nat) : Nat :=
  if _h : 1 < high - low then
    if f ((low + high) / 2) ≤ C then bsF f C ((low + high) / 2) high else bsF f C low ((low + high) / 2)
  else low
termination_by high - low
def sumF (l : List S31) (hold n : Nat) : Int := sumTo l hold n l.length
def lastsR (l : List S31) (hold : Nat) (C : Int) : Int × Int := if C < 0 then (0, 1) else if sumF l hold 1000 ≤ C then (0, 3) else (bsF (sumF l hold) C 0 1000, 0)

set_option maxRecDepth 100000 in
set_option maxHeartbeats 2000000 in
theorem lasts_any {G : Int} {hold : Nat} {A : Option Addr} {b off c : Nat} {l : List S31} (hk : ClOk G hold l) (hlc : l.length ≤ c) (C : Int) (w : World) (hc : ClAt w A b off l) :
    Calls Try.prog 19 #[.agg #[.int .i64 G, .int .i64 hold, .slice A l.length c], .int .i64 C] w fun e w' => e = .returned (pairV (lastsR l hold C)) ∧ Below w.heap.size w w' := by
  have hu24 := Try.underlying24
  have hct := sleep_check (clOk_iff.2 hk)
  have hl16 := hk.len
  obtain ⟨η, hη⟩ : ∃ η : Int, (hold : Int) = η := ⟨_, rfl⟩
  have HSUM : Hid (∀ n : Nat, n ≤ 1000 → ∀ W : World, ClAt W A b off l → Calls Try.prog 23 #[.agg #[.int .i64 G, .int .i64 η, .slice A l.length c], .int .i64 n] W fun e w' => e = .returned (.int .i64 (sumF l hold n)) ∧ Below W.heap.size W w') := fun n hn W hW => by
    have h := sum_any hk hlc n hn W hW
    rw [hη] at h
    exact h
  rw [hη] at hct
  rw [hη]
  have HT := Lib.hid hct
  obtain ⟨w1, hw1⟩ : ∃ w1, w.alloc (.cells #[.int .i64 G, .int .i64 η, .slice A l.length c] 24) = w1 := ⟨_, rfl⟩
  have hB1 : Below w.heap.size w w1 := by rw [← hw1]; exact (Below.refl _ w).alloc (Nat.le_refl _) _
  have k0 : w1.heap[w.heap.size]? = some (.cells #[.int .i64 G, .int .i64 η, .slice A l.length c] 24 (0, 0)) := by rw [← hw1]; exact allocNew _ _ _ rfl
  have p0 : w1.cell? ⟨w.heap.size, 0, none⟩ = some (.int .i64 G) := (blk_cell' k0 0).trans rfl
  have p1 : w1.cell? ⟨w.heap.size, 1, none⟩ = some (.int .i64 η) := (blk_cell' k0 1).trans rfl
  have p2 : w1.cell? ⟨w.heap.size, 2, none⟩ = some (.slice A l.length c) := (blk_cell' k0 2).trans rfl
  have HC1 := Lib.hid (hc.below hB1 hc.bb)
  clear hct hc hk hη k0
  by_cases hC : C < 0
  · have HF : Hid (lastsR l hold C = (0, 1)) := by unfold Hid lastsR; rw [if_pos hC]
    go_enter Try.func19, Try.ntmps19
    go_wp2_with (first | (go_at_call 24; refine (sleep_Check.calls _ G η A c l 0 _ (HC1.out.C (by omega)) hlc HT.out).mono ?_; rintro e w' ⟨rfl, hB⟩))
    go_ret2
    exact ⟨by rw [HF.out]; rfl, hB1.trans (hB.mono hB1.size)⟩
  · have hC' : decide (C < 0) = false := decide_eq_false hC
    obtain ⟨s9, hs9⟩ : ∃ s9, sumF l hold 1000 = s9 := ⟨_, rfl⟩
    by_cases h9 : s9 ≤ C
    · have HF : Hid (lastsR l hold C = (0, 3)) := by unfold Hid lastsR; rw [if_neg hC, hs9, if_pos h9]
      have HS9 := Lib.hid hs9
      clear hs9
      go_enter Try.func19, Try.ntmps19
      go_wp2_with (first | (go_at_call 24; refine (sleep_Check.calls _ G η A c l 0 _ (HC1.out.C (by omega)) hlc HT.out).mono ?_; rintro e w2 ⟨rfl, hB⟩; have q0 := pw_cell_below hB p0; have q1 := pw_cell_below hB p1; have q2 := pw_cell_below hB p2) | (go_at_call 23; refine (HSUM.out 1000 (by omega) _ (HC1.out.below hB HC1.out.bb)).mono ?_; rintro e w3 ⟨rfl, hB3⟩; rw [HS9.out]))
      go_ret2
      exact ⟨by rw [HF.out]; rfl, hB1.trans ((hB.trans (hB3.mono hB.size)).mono hB1.size)⟩
    · have h9' : decide (s9 ≤ C) = false := decide_eq_false h9
      have HF : Hid (lastsR l hold C = (((bsF (sumF l hold) C 0 1000 : Nat) : Int), 0)) := by unfold Hid lastsR; rw [if_neg hC, hs9, if_neg h9]
      have HS9 := Lib.hid hs9
      clear hs9
      go_enter Try.func19, Try.ntmps19
      go_wp2_with (first | (go_at_call 24; refine (sleep_Check.calls _ G η A c l 0 _ (HC1.out.C (by omega)) hlc HT.out).mono ?_; rintro e w2 ⟨rfl, hB⟩; have q0 := pw_cell_below hB p0; have q1 := pw_cell_below hB p1; have q2 := pw_cell_below hB p2) | (go_at_call 23; refine (HSUM.out 1000 (by omega) _ (HC1.out.below hB HC1.out.bb)).mono ?_; rintro e w3 ⟨rfl, hB3⟩; rw [HS9.out]; have q0 := pw_cell_below hB3 q0; have q1 := pw_cell_below hB3 q1; have q2 := pw_cell_below hB3 q2))
      have HC3 := Lib.hid ((HC1.out.below hB HC1.out.bb).below hB3 (Nat.lt_of_lt_of_le HC1.out.bb hB.size))
      have hB13 : Below w.heap.size w w3 := hB1.trans ((hB.trans (hB3.mono hB.size)).mono hB1.size)
      clear h9 h9' hC hC'
      go_loopw [7, 8] (fun lo hi wr => ∃ a d : Nat, lo = .int .i64 a ∧ hi = .int .i64 d ∧ a ≤ d ∧ d ≤ 1000 ∧ bsF (sumF l hold) C a d = bsF (sumF l hold) C 0 1000 ∧ Below w3.heap.size w3 wr) (fun lo hi _ => (intOf hi).toNat - (intOf lo).toNat)
      case atStart => exact ⟨0, 1000, rfl, rfl, by omega, by omega, rfl, Below.refl _ _⟩
      case round =>
        obtain ⟨a, d, rfl, rfl, had, hd, hbs, hBr⟩ := hrel
        obtain ⟨wa, rfl⟩ : ∃ wa : World, wa = wr := ⟨_, rfl⟩
        have hwr : wrap64 ((d : Int) - a) = (d : Int) - a := by unfold wrap64; omega
        have hwr2 : wrap64 ((a : Int) + d) = (a : Int) + d := by unfold wrap64; omega
        by_cases h1 : 1 < d - a
        · have hm1 : (a + d) / 2 < d := by omega
          have hm2 : a < (a + d) / 2 := by omega
          have hg : (1 : Int) < (d : Int) - a := by omega
          obtain ⟨m, hm⟩ : ∃ m : Nat, (a + d) / 2 = m := ⟨_, rfl⟩
          have hmi : ((a : Int) + d).tdiv 2 = m := by rw [Int.tdiv_eq_ediv_of_nonneg (by omega)]; omega
          obtain ⟨sm, hsm⟩ : ∃ sm, sumF l hold m = sm := ⟨_, rfl⟩
          have hB3r := hBr.size
          have z0 := pw_cell_below hBr q0
          have z1 := pw_cell_below hBr q1
          have z2 := pw_cell_below hBr q2
          have HCR := Lib.hid (HC3.out.below hBr HC3.out.bb)
          have hm3 : m ≤ 1000 := by omega
          rw [bsF, dif_pos h1, hm, hsm] at hbs
          rw [hm] at hm1 hm2
          have HSM := Lib.hid hsm
          clear hsm hm
          by_cases h2 : sm ≤ C
          · rw [if_pos h2] at hbs
            have HBS := Lib.hid hbs
            clear hbs
            go_wp2_with (first | (go_at_call 23; refine (HSUM.out m hm3 _ HCR.out).mono ?_; rintro e w5 ⟨rfl, hB5⟩; rw [HSM.out]))
            exact ⟨⟨m, d, by simp, by simp, by omega, hd, HBS.out, hBr.trans (hB5.mono hB3r)⟩, by simp [intOf]; omega⟩
          · have h2' : decide (sm ≤ C) = false := decide_eq_false h2
            rw [if_neg h2] at hbs
            have HBS := Lib.hid hbs
            clear hbs h2
            go_wp2_with (first | (go_at_call 23; refine (HSUM.out m hm3 _ HCR.out).mono ?_; rintro e w5 ⟨rfl, hB5⟩; rw [HSM.out]))
            exact ⟨⟨a, m, by simp, by simp, by omega, by omega, HBS.out, hBr.trans (hB5.mono hB3r)⟩, by simp [intOf]; omega⟩
        · have hg : ¬ (1 : Int) < (d : Int) - a := by omega
          rw [bsF, dif_neg h1] at hbs
          have HBS := Lib.hid hbs
          clear hbs
          go_wp2
          go_ret2
          exact ⟨by rw [HF.out, ← HBS.out]; rfl, hB13.trans (hBr.mono hB13.size)⟩
end Go.Proofs.Ytiglkpgoakibaab
