/- Parked, Worst, Lasts: the walks. Conditions: the cluster is valid. -/
import Derived.Test.YtiglkpgoakibaabSums
namespace Go.Proofs.Ytiglkpgoakibaab
open Go.RowKit Go.Shelf PTopRegrouped Go.Proofs.YtiglkpgoakibaabW.PrintWords Go.Proofs.YtiglkpgoakibaabW.PrintLast
attribute [local go_sem] Oper.semAt_some
set_option linter.unusedSimpArgs false

def parkedR (l : List S31) (hold : Nat) (T : Int) : Int × Int := if win T 0 1000 then (sumTo l hold T.toNat l.length, 0) else (0, 1)
def pairV (x : Int × Int) : Value := .tuple #[.int .i64 x.1, .int .i64 x.2]

set_option maxRecDepth 100000 in
set_option maxHeartbeats 1000000 in
theorem parked_any {G : Int} {hold : Nat} {A : Option Addr} {b off c : Nat} {l : List S31} (hk : ClOk G hold l) (hlc : l.length ≤ c) (T : Int) (w : World) (hc : ClAt w A b off l) :
    Calls Try.prog 15 #[.agg #[.int .i64 G, .int .i64 hold, .slice A l.length c], .int .i64 T] w fun e w' => e = .returned (pairV (parkedR l hold T)) ∧ Below w.heap.size w w' := by
  have hu24 := Try.underlying24
  have hct := sleep_ticks (clOk_iff.2 hk) T
  have hl16 := hk.len
  have HC := Lib.hid hc
  obtain ⟨η, hη⟩ : ∃ η : Int, (hold : Int) = η := ⟨_, rfl⟩
  cases hw : win T 0 1000
  · have HF : Hid (parkedR l hold T = (0, 1)) := by unfold Hid parkedR; rw [hw]; rfl
    rw [hw, hη] at hct
    rw [hη]
    have HT := Lib.hid hct
    clear hw hct hc hk hη
    go_enter Try.func15, Try.ntmps15
    go_wp2_with (go_at_call 22; refine (sleep_checkTicks.calls _ G η A c l T 1 _ ((HC.out.alloc _).C (by omega)) hlc HT.out).mono ?_; rintro e w' ⟨rfl, hB⟩)
    go_ret2
    exact ⟨by rw [HF.out]; rfl, ((Below.refl _ w).alloc (Nat.le_refl _) _).trans (hB.mono (by simp))⟩
  · obtain ⟨t0, t1⟩ := win_iff.1 hw
    obtain ⟨n, rfl⟩ := Int.eq_ofNat_of_zero_le t0
    obtain ⟨sv, hsv⟩ : ∃ sv, sumTo l hold n l.length = sv := ⟨_, rfl⟩
    have HF : Hid (parkedR l hold n = (sv, 0)) := by unfold Hid parkedR; rw [hw, ← hsv]; rfl
    have HSUM : Hid (∀ W : World, ClAt W A b off l → Calls Try.prog 23 #[.agg #[.int .i64 G, .int .i64 η, .slice A l.length c], .int .i64 n] W fun e w' => e = .returned (.int .i64 sv) ∧ Below W.heap.size W w') := fun W hW => by
      have h := sum_any hk hlc n (by omega) W hW
      rw [hη, hsv] at h
      exact h
    rw [hw, hη] at hct
    rw [hη]
    have HT := Lib.hid hct
    obtain ⟨w1, hw1⟩ : ∃ w1, w.alloc (.cells #[.int .i64 G, .int .i64 η, .slice A l.length c] 24) = w1 := ⟨_, rfl⟩
    have hB1 : Below w.heap.size w w1 := by rw [← hw1]; exact (Below.refl _ w).alloc (Nat.le_refl _) _
    have k0 : w1.heap[w.heap.size]? = some (.cells #[.int .i64 G, .int .i64 η, .slice A l.length c] 24 (0, 0)) := by rw [← hw1]; exact allocNew _ _ _ rfl
    have K0 := Lib.hid k0
    have p0 : w1.cell? ⟨w.heap.size, 0, none⟩ = some (.int .i64 G) := (blk_cell' k0 0).trans rfl
    have p1 : w1.cell? ⟨w.heap.size, 1, none⟩ = some (.int .i64 η) := (blk_cell' k0 1).trans rfl
    have p2 : w1.cell? ⟨w.heap.size, 2, none⟩ = some (.slice A l.length c) := (blk_cell' k0 2).trans rfl
    have HC1 := Lib.hid (hc.below hB1 hc.bb)
    clear hw hct hc hk hη k0 hsv t0 t1
    go_enter Try.func15, Try.ntmps15
    go_wp2_with (first | (go_at_call 22; refine (sleep_checkTicks.calls _ G η A c l n 0 _ (HC1.out.C (by omega)) hlc HT.out).mono ?_; rintro e w' ⟨rfl, hB⟩; have q0 := pw_cell_below hB p0; have q1 := pw_cell_below hB p1; have q2 := pw_cell_below hB p2) | (go_at_call 23; refine (HSUM.out _ (HC1.out.below hB HC1.out.bb)).mono ?_; rintro e w3 ⟨rfl, hB3⟩))
    go_ret2
    exact ⟨by rw [HF.out]; rfl, hB1.trans ((hB.trans (hB3.mono hB.size)).mono hB1.size)⟩

def worstR (s : S31) (hold : Nat) (T : Int) : Int × Int := if win T 0 1000 then (worstF s hold T.toNat, 0) else (0, 1)

set_option maxRecDepth 100000 in
set_option maxHeartbeats 1000000 in
theorem worst_any {G : Int} {hold : Nat} {A : Option Addr} {b off c : Nat} {l : List S31} (hk : ClOk G hold l) (hlc : l.length ≤ c) (i : Nat) (s : S31) (hs : l[i]? = some s) (T : Int) (w : World) (hc : ClAt w A b off l) :
    Calls Try.prog 20 #[.agg #[.int .i64 G, .int .i64 hold, .slice A l.length c], .int .i64 i, .int .i64 T] w fun e w' => e = .returned (pairV (worstR s hold T)) ∧ Below w.heap.size w w' := by
  have hu24 := Try.underlying24
  have hfd := field76
  have hi := (List.getElem?_eq_some_iff.1 hs).1
  have hct := sleep_node (clOk_iff.2 hk) i T
  have hwi : win i 0 (l.length - 1) = true := win_iff.2 ⟨by omega, by omega⟩
  have hl16 := hk.len
  have hh0 := hk.H0
  have hh1 := hk.H1
  have HPK := Lib.hid (pk_of (hk.nd s (List.mem_of_getElem? hs)))
  have HS := Lib.hid hs
  have HC := Lib.hid hc
  obtain ⟨η, hη⟩ : ∃ η : Int, (hold : Int) = η := ⟨_, rfl⟩
  cases hw : win T 0 1000
  · have HF : Hid (worstR s hold T = (0, 1)) := by unfold Hid worstR; rw [hw]; rfl
    rw [hw, hwi, hη] at hct
    rw [hη]
    have HT := Lib.hid hct
    clear hw hct hc hk hη hs hwi
    go_enter Try.func20, Try.ntmps20
    go_wp2_with (go_at_call 34; refine (sleep_checkNode.calls _ G η A c l i T 1 _ ((HC.out.alloc _).C (by omega)) hlc HT.out).mono ?_; rintro e w' ⟨rfl, hB⟩)
    go_ret2
    exact ⟨by rw [HF.out]; rfl, ((Below.refl _ w).alloc (Nat.le_refl _) _).trans (hB.mono (by simp))⟩
  · obtain ⟨t0, t1⟩ := win_iff.1 hw
    obtain ⟨n, rfl⟩ := Int.eq_ofNat_of_zero_le t0
    obtain ⟨wv, hwv⟩ : ∃ wv, worstF s hold n = wv := ⟨_, rfl⟩
    have HF : Hid (worstR s hold n = (wv, 0)) := by unfold Hid worstR; rw [hw, ← hwv]; rfl
    have HWV := Lib.hid hwv
    obtain ⟨Θ, hΘ⟩ : ∃ Θ : Int, (n : Int) = Θ := ⟨_, rfl⟩
    rw [hw, hwi, hη, hΘ] at hct
    rw [hη, hΘ]
    have HT := Lib.hid hct
    have HH := Lib.hid hη
    have HTH := Lib.hid hΘ
    rw [hΘ] at HF
    have hn : n ≤ 1000 := by omega
    obtain ⟨w1, hw1⟩ : ∃ w1, w.alloc (.cells #[.int .i64 G, .int .i64 η, .slice A l.length c] 24) = w1 := ⟨_, rfl⟩
    have hB1 : Below w.heap.size w w1 := by rw [← hw1]; exact (Below.refl _ w).alloc (Nat.le_refl _) _
    have k0 : w1.heap[w.heap.size]? = some (.cells #[.int .i64 G, .int .i64 η, .slice A l.length c] 24 (0, 0)) := by rw [← hw1]; exact allocNew _ _ _ rfl
    have p0 : w1.cell? ⟨w.heap.size, 0, none⟩ = some (.int .i64 G) := (blk_cell' k0 0).trans rfl
    have p1 : w1.cell? ⟨w.heap.size, 1, none⟩ = some (.int .i64 η) := (blk_cell' k0 1).trans rfl
    have p2 : w1.cell? ⟨w.heap.size, 2, none⟩ = some (.slice A l.length c) := (blk_cell' k0 2).trans rfl
    have HC1 := Lib.hid (hc.below hB1 hc.bb)
    clear hw hct hc hk hη k0 hwv t0 t1 hs hwi hΘ
    go_enter Try.func20, Try.ntmps20
    go_wp2_with (first | (go_at_call 34; refine (sleep_checkNode.calls _ G η A c l i Θ 0 _ (HC1.out.C (by omega)) hlc HT.out).mono ?_; rintro e w2 ⟨rfl, hB⟩; have q0 := pw_cell_below hB p0; have q1 := pw_cell_below hB p1; have q2 := pw_cell_below hB p2) | (go_at_call 35; refine (newParked_any G η hlc (by omega) i s HS.out Θ _ (HC1.out.below hB HC1.out.bb) (bestF s hold n)).mono ?_; rintro e w3 ⟨p, mb, rfl, hp, hkn, hz2, hzm, hpm, hB2⟩; have HP := Lib.hid hp; have HKN := Lib.hid hkn; clear hp hkn) | (go_at_call 37; refine (start_any p s η Θ mb _ HP.out).mono ?_; rintro e w4 ⟨rfl, hB3⟩) | (go_at_call 36; refine (best_start p s HPK.out hold n (by omega) (by omega) hn mb hpm _ (by have := HP.out.below hB3; rw [← HH.out, ← HTH.out] at this; exact this) (HKN.out.below hB3)).mono ?_; rintro e w5 ⟨⟨x, rfl⟩, hB4⟩; rw [HWV.out]))
    go_ret2
    have hz1 := hB1.size
    have hz12 := hB.size
    have hz23 := hB2.size
    have hz34 := hB3.size
    have e0 : Below w.heap.size w w2 := hB1.trans (hB.mono hz1)
    have e1 : Below w.heap.size w w3 := e0.trans (hB2.mono (by omega))
    have e2 : Below w.heap.size w w4 := e1.trans (hB3.mono (by omega))
    exact ⟨by rw [HF.out]; rfl, e2.trans ⟨hB4.os, hB4.tape, hB4.output, hB4.size, fun i hi => hB4.block i (by omega) (by omega)⟩⟩
end Go.Proofs.Ytiglkpgoakibaab
