/- A parked node's first state, and itself made (start, newParked): the walks. Conditions: the node is there. -/
import Derived.Test.YtiglkpgoakibaabStay
namespace Go.Proofs.Ytiglkpgoakibaab
open Go.RowKit Go.Shelf PTopRegrouped Go.Proofs.YtiglkpgoakibaabW.PrintWords Go.Proofs.YtiglkpgoakibaabW.PrintLast
attribute [local go_sem] Oper.semAt_some
set_option linter.unusedSimpArgs false

set_option maxRecDepth 100000 in
set_option maxHeartbeats 1000000 in
theorem start_any (p : Nat) (s : S31) (hold T : Int) (mb : Nat) (w : World) (hp : PkAt w p s hold T mb) :
    Calls Try.prog 37 #[.pointer (some ⟨p, 0, none⟩)] w fun e w' => e = .returned (stV 0 s.f3) ∧ Below w.heap.size w w' := by
  have hpl := blk_lt' hp
  have q3 : w.cell? ⟨p, 3, none⟩ = some (.int .i64 s.f3) := (blk_cell' hp 3).trans rfl
  go_enter Try.func37, Try.ntmps37
  go_wp2
  refine bodyPost_ret (results_cell_row rfl _ _ w.heap.size 79 #[.int .i64 0, .int .i64 s.f3] (0, 0) _ rfl (allocNew _ _ _ rfl) Try.underlying79 rfl (by kernel_rfl)) rfl ?_
  exact ⟨rfl, (Below.refl _ w).alloc (Nat.le_refl _) _⟩

set_option maxRecDepth 100000 in
set_option maxHeartbeats 1000000 in
theorem newParked_any (G H : Int) {A : Option Addr} {b off c : Nat} {l : List S31} (hlc : l.length ≤ c) (hl : l.length ≤ 1000) (i : Nat) (s : S31) (hs : l[i]? = some s) (T : Int) (w : World) (hc : ClAt w A b off l) (F : Nat → Int → Int × Int) :
    Calls Try.prog 35 #[.agg #[.int .i64 G, .int .i64 H, .slice A l.length c], .int .i64 i, .int .i64 T] w fun e w' =>
      ∃ p mb, e = .returned (.pointer (some ⟨p, 0, none⟩)) ∧ PkAt w' p s H T mb ∧ Known w' mb F ∧ w.heap.size ≤ p ∧ w.heap.size ≤ mb ∧ p ≠ mb ∧ Below w.heap.size w w' := by
  have hi := (List.getElem?_eq_some_iff.1 hs).1
  obtain rfl := hc.hA (by omega)
  have hbb := hc.bb
  have hmx : Try.prog.follows .mixedOrders = true := by kernel_rfl
  obtain ⟨w1, hw1⟩ : ∃ w1, w.alloc (.cells #[.int .i64 G, .int .i64 H, .slice (some ⟨b, off, none⟩) l.length c] 24) = w1 := ⟨_, rfl⟩
  have hB : Below w.heap.size w w1 := by subst hw1; exact (Below.refl _ w).alloc (Nat.le_refl _) _
  have hz : w1.heap.size = w.heap.size + 1 := by subst hw1; simp
  have k0 : w1.heap[w.heap.size]? = some (.cells #[.int .i64 G, .int .i64 H, .slice (some ⟨b, off, none⟩) l.length c] 24 (0, 0)) := by subst hw1; exact allocNew _ _ _ rfl
  have q0 : w1.cell? ⟨w.heap.size, 2, none⟩ = some (.slice (some ⟨b, off, none⟩) l.length c) := (blk_cell' k0 2).trans rfl
  have q1 : w1.cell? ⟨w.heap.size, 1, none⟩ = some (.int .i64 H) := (blk_cell' k0 1).trans rfl
  have d0 : w1.cell? ⟨b, off + i * 5, none⟩ = some (.int .i64 s.f0) := (below_at hB hbb).trans (hc.hc i s hs 0 _ rfl)
  have d1 : w1.cell? ⟨b, off + i * 5 + 1, none⟩ = some (.int .i64 s.f1) := (below_at hB hbb).trans (hc.hc i s hs 1 _ rfl)
  have d2 : w1.cell? ⟨b, off + i * 5 + 2, none⟩ = some (.int .i64 s.f2) := (below_at hB hbb).trans (hc.hc i s hs 2 _ rfl)
  have d3 : w1.cell? ⟨b, off + i * 5 + 3, none⟩ = some (.int .i64 s.f3) := (below_at hB hbb).trans (hc.hc i s hs 3 _ rfl)
  have d4 : w1.cell? ⟨b, off + i * 5 + 4, none⟩ = some (.int .i64 s.f4) := (below_at hB hbb).trans (hc.hc i s hs 4 _ rfl)
  have hmm := @run_makeMap Try.prog
  clear hs hc k0
  go_enter Try.func35, Try.ntmps35
  go_wp2
  clear hw1
  refine wp_calm ?_
  refine start_ (n := 12) (S := fun w' => w'.cell? ⟨w.heap.size, 2, none⟩ = some (.slice (some ⟨b, off, none⟩) l.length c) ∧ w'.cell? ⟨w.heap.size, 1, none⟩ = some (.int .i64 H) ∧ w'.cell? ⟨b, off + i * 5, none⟩ = some (.int .i64 s.f0) ∧ w'.cell? ⟨b, off + i * 5 + 1, none⟩ = some (.int .i64 s.f1) ∧ w'.cell? ⟨b, off + i * 5 + 2, none⟩ = some (.int .i64 s.f2) ∧ w'.cell? ⟨b, off + i * 5 + 3, none⟩ = some (.int .i64 s.f3) ∧ w'.cell? ⟨b, off + i * 5 + 4, none⟩ = some (.int .i64 s.f4)) (ds := []) #[false, false, false, false, false, false, false, false, false, false, false, false] (by kernel_rfl) rfl rfl ⟨q0, q1, d0, d1, d2, d3, d4⟩ (fun hHeld => ?_)
  refine pure_ (i := 0) (N := some 7) (v := ?_) (a' := ?_) #[true, false, false, false, false, false, false, false, false, false, false, false] rfl rfl (by kernel_rfl) (fun _ _ _ h => h) (Or.inl ⟨by rfl, ?_⟩) ?_ ?_
  rotate_left
  · intro w'
    go_simp
    with_reducible rfl
  rotate_left
  · simp only [Act.put, List.setIfInBounds_toArray, List.set_cons_zero, List.set_cons_succ, i64_w, i32_w]
    rfl
  refine pure_ (i := 2) (N := some 9) (v := ?_) (a' := ?_) #[true, false, true, false, false, false, false, false, false, false, false, false] rfl rfl (by kernel_rfl) (fun _ _ _ h => h) (Or.inl ⟨by rfl, ?_⟩) ?_ ?_
  rotate_left
  · intro w'
    go_simp
    with_reducible rfl
  rotate_left
  · simp only [Act.put, List.setIfInBounds_toArray, List.set_cons_zero, List.set_cons_succ, i64_w, i32_w]
    rfl
  refine pure_ (i := 5) (N := some 12) (v := ?_) (a' := ?_) #[true, false, true, false, false, true, false, false, false, false, false, false] rfl rfl (by kernel_rfl) (fun _ _ _ h => h) (Or.inl ⟨by rfl, ?_⟩) ?_ ?_
  rotate_left
  · intro w'
    go_simp
    with_reducible rfl
  rotate_left
  · simp only [Act.put, List.setIfInBounds_toArray, List.set_cons_zero, List.set_cons_succ, i64_w, i32_w]
    rfl
  refine pure_ (i := 7) (N := some 14) (v := ?_) (a' := ?_) #[true, false, true, false, false, true, false, true, false, false, false, false] rfl rfl (by kernel_rfl) (fun _ _ _ h => h) (Or.inl ⟨by rfl, ?_⟩) ?_ ?_
  rotate_left
  · intro w'
    go_simp
    with_reducible rfl
  rotate_left
  · simp only [Act.put, List.setIfInBounds_toArray, List.set_cons_zero, List.set_cons_succ, i64_w, i32_w]
    rfl
  refine take_ (i := 1) (N := some 8) (v := ?_) (a' := ?_) #[true, true, true, false, false, true, false, true, false, false, false, false] rfl rfl (by kernel_rfl) (fun _ _ _ h => h) (Or.inl ⟨by rfl, ?_⟩) hHeld ?_ ?_
  rotate_left
  · rintro w' ⟨s0, s1, s2, s3, s4, s5, s6⟩
    go_simp
    with_reducible rfl
  rotate_left
  · simp only [Act.put, List.setIfInBounds_toArray, List.set_cons_zero, List.set_cons_succ, i64_w, i32_w]
    rfl
  refine pure_ (i := 3) (N := some 10) (v := ?_) (a' := ?_) #[true, true, true, true, false, true, false, true, false, false, false, false] rfl rfl (by kernel_rfl) (fun _ _ _ h => h) (Or.inl ⟨by rfl, ?_⟩) ?_ ?_
  rotate_left
  · intro w'
    go_simp
    with_reducible rfl
  rotate_left
  · simp only [Act.put, List.setIfInBounds_toArray, List.set_cons_zero, List.set_cons_succ, i64_w, i32_w]
    rfl
  refine take_ (i := 4) (N := some 11) (v := ?_) (a' := ?_) #[true, true, true, true, true, true, false, true, false, false, false, false] rfl rfl (by kernel_rfl) (fun _ _ _ h => h) (Or.inl ⟨by rfl, ?_⟩) hHeld ?_ ?_
  rotate_left
  · rintro w' ⟨s0, s1, s2, s3, s4, s5, s6⟩
    go_simp
    with_reducible rfl
  rotate_left
  · simp only [Act.put, List.setIfInBounds_toArray, List.set_cons_zero, List.set_cons_succ, i64_w, i32_w]
    rfl
  refine take_ (i := 6) (N := some 13) (v := ?_) (a' := ?_) #[true, true, true, true, true, true, true, true, false, false, false, false] rfl rfl (by kernel_rfl) (fun _ _ _ h => h) (Or.inl ⟨by rfl, ?_⟩) hHeld ?_ ?_
  rotate_left
  · rintro w' ⟨s0, s1, s2, s3, s4, s5, s6⟩
    go_simp
    with_reducible rfl
  rotate_left
  · simp only [Act.put, List.setIfInBounds_toArray, List.set_cons_zero, List.set_cons_succ, i64_w, i32_w]
    rfl
  refine one_ (i := 8) (N := some 15) #[true, true, true, true, true, true, true, true, true, false, false, false] rfl rfl (by kernel_rfl) (by decide) (fun K hK => ?_)
  refine value_ (w1 := ?_) (v := ?_) (by rfl) rfl ?_ ?_
  rotate_left 2
  · go_simp
    constructor
    · rfl
    · rfl
  refine hK.out _ _ ⟨cell_alloc hHeld.1 _, cell_alloc hHeld.2.1 _, cell_alloc hHeld.2.2.1 _, cell_alloc hHeld.2.2.2.1 _, cell_alloc hHeld.2.2.2.2.1 _, cell_alloc hHeld.2.2.2.2.2.1 _, cell_alloc hHeld.2.2.2.2.2.2 _⟩ (fun hHeld => ?_)
  clear hK K
  refine norm_ (a' := ?_) ?_ ?_
  rotate_left
  · show Act.put _ (some 15) _ = _
    simp only [Act.put, List.setIfInBounds_toArray, List.set_cons_zero, List.set_cons_succ, i64_w, i32_w]
    rfl
  refine pure_ (i := 9) (N := some 16) (v := ?_) (a' := ?_) #[true, true, true, true, true, true, true, true, true, true, false, false] rfl rfl (by kernel_rfl) (fun _ _ _ h => h) (Or.inl ⟨by rfl, ?_⟩) ?_ ?_
  rotate_left
  · intro w'
    go_simp
    with_reducible rfl
  rotate_left
  · simp only [Act.put, List.setIfInBounds_toArray, List.set_cons_zero, List.set_cons_succ, i64_w, i32_w]
    rfl
  refine one_ (i := 10) (N := some 17) #[true, true, true, true, true, true, true, true, true, true, true, false] rfl rfl (by kernel_rfl) (by decide) (fun K hK => ?_)
  refine value_ (w1 := ?_) (v := ?_) (by rfl) rfl ?_ ?_
  rotate_left 2
  · go_simp
    constructor
    · rfl
    · rfl
  refine hK.out _ _ ⟨cell_alloc hHeld.1 _, cell_alloc hHeld.2.1 _, cell_alloc hHeld.2.2.1 _, cell_alloc hHeld.2.2.2.1 _, cell_alloc hHeld.2.2.2.2.1 _, cell_alloc hHeld.2.2.2.2.2.1 _, cell_alloc hHeld.2.2.2.2.2.2 _⟩ (fun hHeld => ?_)
  clear hK K
  refine norm_ (a' := ?_) ?_ ?_
  rotate_left
  · show Act.put _ (some 17) _ = _
    simp only [Act.put, List.setIfInBounds_toArray, List.set_cons_zero, List.set_cons_succ, i64_w, i32_w]
    rfl
  refine pure_ (i := 11) (N := some 6) (v := ?_) (a' := ?_) #[true, true, true, true, true, true, true, true, true, true, true, true] rfl rfl (by kernel_rfl) (fun _ _ _ h => h) (Or.inl ⟨by rfl, ?_⟩) ?_ ?_
  rotate_left
  · intro w'
    go_simp
    with_reducible rfl
  rotate_left
  · simp only [Act.put, List.setIfInBounds_toArray, List.set_cons_zero, List.set_cons_succ, i64_w, i32_w]
    rfl
  refine done_ (by kernel_rfl) ?_
  refine calm_normal ?_
  go_wp2
  go_ret
  have hk := Known.made w1 F
  obtain ⟨w2, hw2⟩ : ∃ w2, w1.alloc (.map #[] 0) = w2 := ⟨_, rfl⟩
  have hz2 : w2.heap.size = w.heap.size + 2 := by subst hw2; simp [hz]
  have hB2 : Below w.heap.size w w2 := by subst hw2; exact hB.alloc (by omega) _
  rw [hz, hw2] at hk
  rw [hw2]
  refine ⟨w.heap.size + 2, w.heap.size + 1, rfl, ?_, hk.below ((Below.refl _ _).alloc (Nat.le_refl _) _).drew, by omega, by omega, by omega, (hB2.alloc (by omega) _).drew⟩
  exact PkAt.drew (allocNew _ _ _ hz2.symm)
end Go.Proofs.Ytiglkpgoakibaab
