/- Parked clusters (sum, Parked, Lasts, Worst): the walks. Conditions: the cluster is valid. -/
import Derived.Test.YtiglkpgoakibaabBest
namespace Go.Proofs.Ytiglkpgoakibaab
open Go.RowKit Go.Shelf PTopRegrouped Go.Proofs.YtiglkpgoakibaabW.PrintWords Go.Proofs.YtiglkpgoakibaabW.PrintLast
attribute [local go_sem] Oper.semAt_some
set_option linter.unusedSimpArgs false

theorem field76 (a b : Int) (w : World) : (Instr.field 76 (.agg #[.int .i64 a, .int .i64 b]) 0).run Try.prog w = .ok (.int .i64 a) w := by kernel_rfl
def worstF (s : S31) (hold T : Nat) : Int := (bestF s hold T 0 s.f3).1
def sumTo (l : List S31) (hold T : Nat) : Nat → Int
  | 0 => 0
  | k + 1 => match l[k]? with
    | some s => wrap64 (sumTo l hold T k + worstF s hold T)
    | none => sumTo l hold T k
/-- best from the first state. -/
theorem best_start (p : Nat) (s : S31) (hs : PkOk s) (hold T : Nat) (h0 : 1 ≤ hold) (h1 : hold ≤ 100) (hT : T ≤ 1000) (mb : Nat) (hpm : p ≠ mb) (w : World) (hp : PkAt w p s hold T mb) (hk : Known w mb (bestF s hold T)) :
    Calls Try.prog 36 #[.pointer (some ⟨p, 0, none⟩), .agg #[.int .i64 0, .int .i64 s.f3]] w fun e w' => (∃ x, e = .returned (.agg #[.int .i64 (worstF s hold T), .int .i64 x])) ∧ Bel w.heap.size mb w w' := by
  obtain ⟨k, hk'⟩ := Int.eq_ofNat_of_zero_le hs.b0
  have hb := hs.b1
  have h := best_any p s hs hold T h0 h1 hT mb hpm T 0 k (by omega) (by omega) (by omega) w hp hk
  rw [hk']
  refine Calls.mono h ?_
  rintro e w' ⟨rfl, _, hb⟩
  refine ⟨⟨(bestF s hold T 0 k).2, ?_⟩, hb⟩
  unfold worstF
  rw [hk']

set_option maxRecDepth 100000 in
set_option maxHeartbeats 1000000 in
theorem sum_any {G : Int} {hold : Nat} {A : Option Addr} {b off c : Nat} {l : List S31} (hk : ClOk G hold l) (hlc : l.length ≤ c) (T : Nat) (hT : T ≤ 1000) (w : World) (hc : ClAt w A b off l) :
    Calls Try.prog 23 #[.agg #[.int .i64 G, .int .i64 hold, .slice A l.length c], .int .i64 T] w fun e w' => e = .returned (.int .i64 (sumTo l hold T l.length)) ∧ Below w.heap.size w w' := by
  have hu24 := Try.underlying24
  have hfd := field76
  have hl16 := hk.len
  have hh0 := hk.H0
  have hh1 := hk.H1
  obtain ⟨η, hη⟩ : ∃ η : Int, (hold : Int) = η := ⟨_, rfl⟩
  obtain ⟨Θ, hΘ⟩ : ∃ Θ : Int, (T : Int) = Θ := ⟨_, rfl⟩
  have HC := Lib.hid hc
  have HK := Lib.hid hk
  have hbb := hc.bb
  obtain ⟨w1, hw1⟩ : ∃ w1, w.alloc (.cells #[.int .i64 G, .int .i64 η, .slice A l.length c] 24) = w1 := ⟨_, rfl⟩
  have hB1 : Below w.heap.size w w1 := by rw [← hw1]; exact (Below.refl _ w).alloc (Nat.le_refl _) _
  have k0 : w1.heap[w.heap.size]? = some (.cells #[.int .i64 G, .int .i64 η, .slice A l.length c] 24 (0, 0)) := by rw [← hw1]; exact allocNew _ _ _ rfl
  have K0 := Lib.hid k0
  have q2 : w1.cell? ⟨w.heap.size, 2, none⟩ = some (.slice A l.length c) := (blk_cell' k0 2).trans rfl
  rw [hη, hΘ]
  have HH := Lib.hid hη
  have HTH := Lib.hid hΘ
  clear hc hk k0 hη hΘ
  go_enter Try.func23, Try.ntmps23
  go_wp2
  clear hw1
  go_loopw [4, 10] (fun v i wr => ∃ k : Nat, k ≤ l.length ∧ v = .int .i64 (sumTo l hold T k) ∧ i = .int .i64 k ∧ Below w1.heap.size w1 wr) (fun _ i _ => l.length - (intOf i).toNat)
  case atStart => exact ⟨0, Nat.zero_le _, rfl, rfl, Below.refl _ _⟩
  case round =>
    obtain ⟨k, hk, rfl, rfl, hB⟩ := hrel
    by_cases hlt : k < l.length
    · obtain ⟨wa, rfl⟩ : ∃ wa : World, wa = wr := ⟨_, rfl⟩
      obtain ⟨s, hs⟩ : ∃ s, l[k]? = some s := ⟨_, List.getElem?_eq_getElem hlt⟩
      have HPK := Lib.hid (pk_of (HK.out.nd s (List.mem_of_getElem? hs)))
      have hz1 := hB1.size
      have hza := hB.size
      have hlt0 := blk_lt' K0.out
      have ka := (hB.block _ (blk_lt' K0.out)).trans K0.out
      have f0 : wa.cell? ⟨w.heap.size, 0, none⟩ = some (.int .i64 G) := (blk_cell' ka 0).trans rfl
      have f1 : wa.cell? ⟨w.heap.size, 1, none⟩ = some (.int .i64 η) := (blk_cell' ka 1).trans rfl
      have f2 : wa.cell? ⟨w.heap.size, 2, none⟩ = some (.slice A l.length c) := (blk_cell' ka 2).trans rfl
      have HCA := Lib.hid ((HC.out.below hB1 hbb).below hB (by omega))
      have HS := Lib.hid hs
      obtain ⟨wv, hwv⟩ : ∃ wv, worstF s hold T = wv := ⟨_, rfl⟩
      have HWV := Lib.hid hwv
      clear hs ka hwv
      go_wp2_with (first | (go_at_call 35; refine (newParked_any G η hlc (by omega) k s HS.out Θ _ HCA.out (bestF s hold T)).mono ?_; rintro e w2 ⟨p, mb, rfl, hp, hkn, hz2, hzm, hpm, hB2⟩; have HP := Lib.hid hp; have HKN := Lib.hid hkn; clear hp hkn) | (go_at_call 37; refine (start_any p s η Θ mb _ HP.out).mono ?_; rintro e w3 ⟨rfl, hB3⟩) | (go_at_call 36; refine (best_start p s HPK.out hold T (by omega) (by omega) hT mb hpm _ (by have := HP.out.below hB3; rw [← HH.out, ← HTH.out] at this; exact this) (HKN.out.below hB3)).mono ?_; rintro e w4 ⟨⟨x, rfl⟩, hB4⟩; rw [HWV.out]))
      have hz23 := hB2.size
      have hz34 := hB3.size
      have e1 : Below w1.heap.size w1 w2 := hB.trans (hB2.mono hza)
      have e2 : Below w1.heap.size w1 w3 := e1.trans (hB3.mono (by omega))
      have e3 : Below w1.heap.size w1 w4 := e2.trans ⟨hB4.os, hB4.tape, hB4.output, hB4.size, fun i hi => hB4.block i (by omega) (by omega)⟩
      refine ⟨⟨k + 1, by omega, ?_, by simp, e3⟩, by simp [intOf]; omega⟩
      rw [sumTo, HS.out]
      dsimp only
      rw [HWV.out]
    · obtain rfl : k = l.length := by omega
      go_wp2
      go_ret
      exact ⟨rfl, hB1.trans (hB.mono hB1.size)⟩
end Go.Proofs.Ytiglkpgoakibaab
