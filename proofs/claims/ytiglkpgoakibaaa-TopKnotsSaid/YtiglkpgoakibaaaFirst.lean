/- The first variant that a knot allows (first): the walk. Condition: the forest lies there. -/
import Derived.Test.YtiglkpgoakibaaaNew
namespace Go.Proofs.Ytiglkpgoakibaaa
open Go.RowKit Go.Maps PTopKnots Go.Proofs.YtiglkpgoakibaaaW.PrintWords
set_option linter.unusedVariables false
set_option linter.unusedSimpArgs false

/-- A row of bools that is read. -/
structure RdB (w : World) (A : Option Addr) (g off : Nat) (xs : List Bool) : Prop where
  hA : 0 < xs.length → A = some ⟨g, off, none⟩
  hc : ∀ j x, xs[j]? = some x → w.cell? ⟨g, off + j, none⟩ = some (.bool x)
theorem mkb (N : Nat) (w : World) (h : N ≤ 1000) : (Instr.makeSlice 40 (.int .i64 (N : Int)) (.int .i64 (N : Int))).run Try.prog w = .ok (.slice (some ⟨w.heap.size, 0, none⟩) N N) (w.alloc (.cells (madeCells #[.bool false] N) 4)) := by
  have hi : ∃ i, Try.prog.info? 4 = some i ∧ i.zero = some (.bool false) ∧ i.size = 1 ∧ i.bytes = 1 := by
    refine ⟨_, rfl, ?_, ?_, ?_⟩ <;> kernel_rfl
  obtain ⟨i, h1, h2, h3, h4⟩ := hi
  have := run_make (P := Try.prog) w 40 4 i (.bool false) Try.underlying40 h1 h2 .i64 .i64 (N : Int) (N : Int) (by omega) (Int.le_refl _) (by rw [h4]; omega) (by omega)
  rw [h3] at this
  simpa [Value.cells] using this
attribute [local go_sem] mkb
/-- The row of bools in the making. -/
def fbs (p : List Bool) (m : Nat) : Array Value := ((p ++ List.replicate m false).map Value.bool).toArray
theorem fbs_0 (N : Nat) : madeCells #[.bool false] N = fbs [] N := by
  apply Array.toList_inj.1
  rw [toList_madeCells_one]
  simp [fbs]
theorem fbs_set (p : List Bool) (m : Nat) (b : Bool) : (fbs p (m + 1)).setIfInBounds p.length (.bool b) = fbs (p ++ [b]) m := by
  unfold fbs
  rw [List.setIfInBounds_toArray]
  congr 1
  rw [List.replicate_succ]
  simp
theorem fbs_at (p : List Bool) (m : Nat) (b : Bool) : (fbs (p ++ [b]) m)[p.length]? = some (.bool b) := by
  simp [fbs]
theorem fbs_at0 (p : List Bool) (m : Nat) : (fbs p (m + 1))[p.length]? = some (.bool false) := by
  simp [fbs]
theorem beq_nat (q : Nat) : (((q : Nat) : Int) == 0) = (q == 0) := by
  rw [Bool.eq_iff_iff]
  simp

set_option maxRecDepth 100000 in
set_option maxHeartbeats 1000000 in
theorem first_any {w : World} {F : Fb} {N c : Nat} {Ks : List Kn} (hf : Fo w F N Ks c) (hN : N ≤ 1000) {n : Nat} (hn : n < Ks.length) :
    Calls Try.prog 25 #[.pointer (some ⟨F.p, 0, none⟩), .int .i64 n] w fun e w' => ∃ A l c', e = .returned (.slice A l c') ∧ Below w.heap.size w w' ∧ (n ≠ 0 → l = N ∧ c' = N ∧ A = some ⟨w.heap.size, 0, none⟩ ∧ w'.heap[w.heap.size]? = some (.cells (fbs (fst Ks N N n []) 0) 4 (0, 0))) := by
  by_cases h0 : n = 0
  · subst h0
    clear hf hn
    go_enter Try.func25, Try.ntmps25
    go_wp2_with fail
    go_ret
    exact ⟨_, _, _, rfl, Below.refl _ _, fun h => absurd rfl h⟩
  · have h0' : (((n : Nat) : Int) == 0) = false := by simp [h0]
    have q0 : w.cell? ⟨F.p, 0, none⟩ = some (.int .i64 N) := (blk_cell' hf.box 0).trans rfl
    have HF := Lib.hid hf
    have HMK := Lib.hid (mkb N w hN)
    clear hf h0
    go_enter Try.func25, Try.ntmps25
    go_wp2_with fail
    go_loopw [1, 16] (fun t i wr => ∃ (k n' : Nat) (p : List Bool), k ≤ N ∧ i = .int .i64 k ∧ t = .int .i64 n' ∧ n' < Ks.length ∧ p.length = k ∧ Hid (fst Ks N (N - k) n' p = fst Ks N N n []) ∧ Hid (wr.heap[w.heap.size]? = some (.cells (fbs p (N - k)) 4 (0, 0))) ∧ Hid (Below w.heap.size w wr)) (fun _ i _ => N - (intOf i).toNat)
    case atStart =>
      exact ⟨0, n, [], Nat.zero_le _, rfl, rfl, hn, rfl, rfl, by rw [fbs_0, Nat.sub_zero]; exact allocNew _ _ _ rfl, (Below.refl _ w).alloc (Nat.le_refl _) _⟩
    case round =>
      obtain ⟨k, n', p, hk, rfl, rfl, hn', hpl, HE, HH, HB⟩ := hrel
      obtain ⟨wa, rfl⟩ : ∃ wa : World, wa = wr := ⟨_, rfl⟩
      by_cases hlt : k < N
      · obtain ⟨m, hm⟩ : ∃ m, N - k = m + 1 := ⟨N - k - 1, by omega⟩
        have hkm : N - (m + 1) = k := by omega
        have hm2 : N - (k + 1) = m := by omega
        obtain ⟨q, hq⟩ : ∃ q, br Ks n' k false = q := ⟨_, rfl⟩
        obtain ⟨b, hb⟩ : ∃ b, (q == 0) = b := ⟨_, rfl⟩
        have hb' : (((q : Nat) : Int) == 0) = b := by rw [beq_nat]; exact hb
        obtain ⟨r, hr⟩ : ∃ r, br Ks n' k b = r := ⟨_, rfl⟩
        have hfs : fst Ks N m r (p ++ [b]) = fst Ks N N n [] := by
          rw [← HE.out, hm, fst, hkm, hq, hb, hr]
        have hrl : r < Ks.length := by rw [← hr]; exact br_lt HF.out.wf hn' hlt _
        have HJ1 : Hid (∀ W : World, Fo W F N Ks c → Calls Try.prog 35 #[.pointer (some ⟨F.p, 0, none⟩), .int .i64 n', .int .i64 k, .bool false] W fun e w' => e = .returned (.int .i64 q) ∧ Below W.heap.size W w') := fun W hW => by
          have h := branch_any hW hn' k false
          rw [hq] at h
          exact h
        have HJ2 : Hid (∀ W : World, Fo W F N Ks c → Calls Try.prog 35 #[.pointer (some ⟨F.p, 0, none⟩), .int .i64 n', .int .i64 k, .bool b] W fun e w' => e = .returned (.int .i64 r) ∧ Below W.heap.size W w') := fun W hW => by
          have h := branch_any hW hn' k b
          rw [hr] at h
          exact h
        have HFa := Lib.hid (HF.out.below HB.out)
        have hga : w.heap.size < wa.heap.size := blk_lt' HH.out
        have HFS := Lib.hid hfs
        have HM2 := Lib.hid hm2
        have HPL := Lib.hid hpl
        rw [hm] at HH
        clear hq hb hr hfs hm hkm hm2 hpl HE
        go_wp2_with fail
        refine (HJ1.out _ HFa.out).mono ?_
        rintro e w1 ⟨rfl, hB1⟩
        have k1 : w1.heap[w.heap.size]? = some (.cells (fbs p (m + 1)) 4 (0, 0)) := (hB1.block _ hga).trans HH.out
        have c1 : w1.cell? ⟨w.heap.size, k, none⟩ = some (.bool false) := (blk_cell' k1 k).trans (by rw [← HPL.out]; exact fbs_at0 p m)
        have z1 : w1.frozen? ⟨w.heap.size, k, none⟩ = false := blk_frozen' k1 k
        have K1 := Lib.hid k1
        have HF1 := Lib.hid (HFa.out.below hB1)
        have HB1 := Lib.hid (HB.out.trans (hB1.mono (Nat.le_of_lt hga)))
        clear k1 hB1 HJ1
        go_upto_region 8 with fail
        obtain ⟨w2, hw2⟩ : ∃ w2, w1.setCell ⟨w.heap.size, k, none⟩ (.bool b) = w2 := ⟨_, rfl⟩
        have k2 : w2.heap[w.heap.size]? = some (.cells (fbs (p ++ [b]) m) 4 (0, 0)) := by
          rw [← hw2, heap_setCell_same _ _ k _ _ _ K1.out, ← HPL.out, fbs_set]
        have c2 : w2.cell? ⟨w.heap.size, k, none⟩ = some (.bool b) := (blk_cell' k2 k).trans (by rw [← HPL.out]; exact fbs_at p m b)
        have hB2 : Below w.heap.size w1 w2 := by rw [← hw2]; exact ⟨rfl, rfl, rfl, by simp [World.setCell], fun b hb => Below.heap_setCell _ _ _ _ (by show b ≠ w.heap.size; omega)⟩
        have HB2 := Lib.hid (HB1.out.trans hB2)
        have HF2 := Lib.hid (HF.out.below HB2.out)
        have K2 := Lib.hid k2
        try rw [hw2]
        clear hw2 k2 hB2 c1 z1 hb'
        go_wp2_with fail
        refine (HJ2.out _ HF2.out).mono ?_
        rintro e w3 ⟨rfl, hB3⟩
        have k3 : w3.heap[w.heap.size]? = some (.cells (fbs (p ++ [b]) m) 4 (0, 0)) := (hB3.block _ (blk_lt' K2.out)).trans K2.out
        have HB3 := Lib.hid (HB2.out.trans (hB3.mono (Nat.le_of_lt (blk_lt' K2.out))))
        have K3 := Lib.hid k3
        clear k3 hB3 HJ2 c2
        go_wp2_with fail
        refine ⟨⟨k + 1, r, p ++ [b], by omega, by simp, rfl, hrl, by rw [List.length_append, HPL.out]; rfl, by rw [HM2.out]; exact HFS, by rw [HM2.out]; exact K3, HB3⟩, by simp [intOf]; omega⟩
      · obtain rfl : N = k := by omega
        have HK : Hid (wa.heap[w.heap.size]? = some (.cells (fbs (fst Ks N N n []) 0) 4 (0, 0))) := by
          rw [← HE.out, Nat.sub_self]
          rw [Nat.sub_self] at HH
          exact HH
        clear hk hpl HE
        go_wp2_with fail
        go_ret
        exact ⟨_, _, _, rfl, HB.out, fun _ => ⟨rfl, rfl, rfl, HK.out⟩⟩
end Go.Proofs.Ytiglkpgoakibaaa
