/- A parked node stays asleep (stay): the walk. Conditions: ticks up to 1000, tokens 0 to 20. -/
import Derived.Test.YtiglkpgoakibaabPark
namespace Go.Proofs.Ytiglkpgoakibaab
open Go.RowKit Go.Shelf PTopRegrouped Go.Proofs.YtiglkpgoakibaabW.PrintWords Go.Proofs.YtiglkpgoakibaabW.PrintLast
attribute [local go_sem] Oper.semAt_some
set_option linter.unusedSimpArgs false

theorem cell_set {w : World} {p q : Addr} {u : Value} (h : w.cell? p = some u) (v : Value) (hne : p.block ≠ q.block) : (w.setCell q v).cell? p = some u :=
  (World.cell?_of_block (Below.heap_setCell w q v p.block hne)).trans h
theorem PkAt.drew {w : World} {p : Nat} {s : S31} {hold T : Int} {mb : Nat} (h : PkAt w p s hold T mb) : PkAt w.drew p s hold T mb := h
theorem alloc3 (w W : World) (a b c : Obj) (hW : ((w.alloc a).alloc b).alloc c = W) :
    W.heap.size = w.heap.size + 3 ∧ W.heap[w.heap.size]? = some a ∧ W.heap[w.heap.size + 1]? = some b ∧ W.heap[w.heap.size + 2]? = some c ∧ Below w.heap.size w W := by
  subst hW
  refine ⟨by simp, ?_, ?_, ?_, ?_⟩
  · exact allocOld (allocOld (allocNew w a _ rfl) b) c
  · exact allocOld (allocNew _ b _ (by simp)) c
  · exact allocNew _ c _ (by simp)
  · exact (((Below.refl _ w).alloc (Nat.le_refl _) _).alloc (by simp) _).alloc (by simp; omega) _

/-- A block of two cells: what a walk asks when both are stored. -/
theorem two_put {w : World} {b : Nat} {a0 a1 : Value} {ty : TypeId} (h : w.heap[b]? = some (.cells #[a0, a1] ty (0, 0))) (x0 x1 : Value) :
    ((w.setCell ⟨b, 0, none⟩ x0).setCell ⟨b, 1, none⟩ x1).heap[b]? = some (.cells #[x0, x1] ty (0, 0)) :=
  heap_setCell_same _ _ 1 _ _ _ (heap_setCell_same _ _ 0 _ _ _ h)
theorem two_cell {w : World} {b : Nat} {a0 a1 : Value} {ty : TypeId} (h : w.heap[b]? = some (.cells #[a0, a1] ty (0, 0))) (x : Value) : (w.setCell ⟨b, 0, none⟩ x).cell? ⟨b, 1, none⟩ = some a1 :=
  (blk_cell' (heap_setCell_same _ _ 0 _ _ _ h) 1).trans rfl
theorem two_fro {w : World} {b : Nat} {a0 a1 : Value} {ty : TypeId} (h : w.heap[b]? = some (.cells #[a0, a1] ty (0, 0))) (x : Value) (i : Nat) : (w.setCell ⟨b, 0, none⟩ x).frozen? ⟨b, i, none⟩ = false :=
  blk_frozen' (heap_setCell_same _ _ 0 _ _ _ h) i

set_option maxRecDepth 100000 in
set_option maxHeartbeats 1000000 in
theorem stay_any (p : Nat) (s : S31) (hs : PkOk s) (hold T : Int) (mb : Nat) (t k : Nat) (ht : t ≤ 1000) (hk : k ≤ 20) (w : World) (hp : PkAt w p s hold T mb) :
    Calls Try.prog 40 #[.pointer (some ⟨p, 0, none⟩), stV t k] w fun e w' => e = .returned (.tuple #[stV (t + 1 : Nat) (refT s t k), outV (s.f2, 0)]) ∧ Below w.heap.size w w' := by
  have hpl := blk_lt' hp
  have hmx : Try.prog.follows .mixedOrders = true := by kernel_rfl
  obtain ⟨w1, hw1⟩ : ∃ w1, ((w.alloc (.cells #[.int .i64 t, .int .i64 k] 79)).alloc (.cells #[.int .i64 0, .int .i64 0] 79)).alloc (.cells #[.int .i64 0, .int .i64 0] 76) = w1 := ⟨_, rfl⟩
  obtain ⟨hz, k0, k1, k2, hB⟩ := alloc3 _ _ _ _ _ hw1
  have kp : PkAt w1 p s hold T mb := hp.below hB
  have q0 : w1.cell? ⟨w.heap.size, 0, none⟩ = some (.int .i64 t) := (blk_cell' k0 0).trans rfl
  have q1 : w1.cell? ⟨w.heap.size, 1, none⟩ = some (.int .i64 k) := (blk_cell' k0 1).trans rfl
  have q2 : w1.cell? ⟨p, 2, none⟩ = some (.int .i64 s.f2) := (blk_cell' kp 2).trans rfl
  have hwr : wrap64 ((t : Int) + 1) = ((t + 1 : Nat) : Int) := by unfold wrap64; omega
  unfold stV
  have KP := Lib.hid kp
  have K1 := Lib.hid k1
  have K2 := Lib.hid k2
  clear kp k0 k1 k2
  go_enter Try.func40, Try.ntmps40
  go_wp2
  clear hw1
  refine wp_calm ?_
  refine start_ (n := 15) (S := fun w' => w'.cell? ⟨w.heap.size, 0, none⟩ = some (.int .i64 t) ∧ w'.cell? ⟨w.heap.size, 1, none⟩ = some (.int .i64 k) ∧ w'.cell? ⟨p, 2, none⟩ = some (.int .i64 s.f2)) (ds := [14]) #[false, false, false, false, false, false, false, false, false, false, false, false, false, false, false] (by kernel_rfl) rfl rfl ⟨q0, q1, q2⟩ (fun hHeld => ?_)
  refine pure_ (i := 0) (N := some 6) (v := ?_) (a' := ?_) #[true, false, false, false, false, false, false, false, false, false, false, false, false, false, false] rfl rfl (by kernel_rfl) (fun _ _ _ h => h) (Or.inl ⟨by rfl, ?_⟩) ?_ ?_
  rotate_left
  · intro w'
    go_simp
    with_reducible rfl
  rotate_left
  · simp only [Act.put, List.setIfInBounds_toArray, List.set_cons_zero, List.set_cons_succ, i64_w, i32_w]
    rfl
  refine pure_ (i := 3) (N := some 9) (v := ?_) (a' := ?_) #[true, false, false, true, false, false, false, false, false, false, false, false, false, false, false] rfl rfl (by kernel_rfl) (fun _ _ _ h => h) (Or.inl ⟨by rfl, ?_⟩) ?_ ?_
  rotate_left
  · intro w'
    go_simp
    with_reducible rfl
  rotate_left
  · simp only [Act.put, List.setIfInBounds_toArray, List.set_cons_zero, List.set_cons_succ, i64_w, i32_w]
    rfl
  refine pure_ (i := 7) (N := some 13) (v := ?_) (a' := ?_) #[true, false, false, true, false, false, false, true, false, false, false, false, false, false, false] rfl rfl (by kernel_rfl) (fun _ _ _ h => h) (Or.inl ⟨by rfl, ?_⟩) ?_ ?_
  rotate_left
  · intro w'
    go_simp
    with_reducible rfl
  rotate_left
  · simp only [Act.put, List.setIfInBounds_toArray, List.set_cons_zero, List.set_cons_succ, i64_w, i32_w]
    rfl
  refine pure_ (i := 8) (N := some 14) (v := ?_) (a' := ?_) #[true, false, false, true, false, false, false, true, true, false, false, false, false, false, false] rfl rfl (by kernel_rfl) (fun _ _ _ h => h) (Or.inl ⟨by rfl, ?_⟩) ?_ ?_
  rotate_left
  · intro w'
    go_simp
    with_reducible rfl
  rotate_left
  · simp only [Act.put, List.setIfInBounds_toArray, List.set_cons_zero, List.set_cons_succ, i64_w, i32_w]
    rfl
  refine pure_ (i := 9) (N := some 15) (v := ?_) (a' := ?_) #[true, false, false, true, false, false, false, true, true, true, false, false, false, false, false] rfl rfl (by kernel_rfl) (fun _ _ _ h => h) (Or.inl ⟨by rfl, ?_⟩) ?_ ?_
  rotate_left
  · intro w'
    go_simp
    with_reducible rfl
  rotate_left
  · simp only [Act.put, List.setIfInBounds_toArray, List.set_cons_zero, List.set_cons_succ, i64_w, i32_w]
    rfl
  refine pure_ (i := 10) (N := some 16) (v := ?_) (a' := ?_) #[true, false, false, true, false, false, false, true, true, true, true, false, false, false, false] rfl rfl (by kernel_rfl) (fun _ _ _ h => h) (Or.inl ⟨by rfl, ?_⟩) ?_ ?_
  rotate_left
  · intro w'
    go_simp
    with_reducible rfl
  rotate_left
  · simp only [Act.put, List.setIfInBounds_toArray, List.set_cons_zero, List.set_cons_succ, i64_w, i32_w]
    rfl
  refine take_ (i := 1) (N := some 7) (v := ?_) (a' := ?_) #[true, true, false, true, false, false, false, true, true, true, true, false, false, false, false] rfl rfl (by kernel_rfl) (fun _ _ _ h => h) (Or.inl ⟨by rfl, ?_⟩) hHeld ?_ ?_
  rotate_left
  · rintro w' ⟨s0, s1, s2⟩
    go_simp
    with_reducible rfl
  rotate_left
  · simp only [Act.put, List.setIfInBounds_toArray, List.set_cons_zero, List.set_cons_succ, i64_w, i32_w]
    rfl
  refine pure_ (i := 2) (N := some 8) (v := ?_) (a' := ?_) #[true, true, true, true, false, false, false, true, true, true, true, false, false, false, false] rfl rfl (by kernel_rfl) (fun _ _ _ h => h) (Or.inl ⟨by rfl, ?_⟩) ?_ ?_
  rotate_left
  · intro w'
    go_simp
    with_reducible rfl
  rotate_left
  · simp only [Act.put, List.setIfInBounds_toArray, List.set_cons_zero, List.set_cons_succ, i64_w, i32_w]
    rfl
  refine take_ (i := 4) (N := some 10) (v := ?_) (a' := ?_) #[true, true, true, true, true, false, false, true, true, true, true, false, false, false, false] rfl rfl (by kernel_rfl) (fun _ _ _ h => h) (Or.inl ⟨by rfl, ?_⟩) hHeld ?_ ?_
  rotate_left
  · rintro w' ⟨s0, s1, s2⟩
    go_simp
    with_reducible rfl
  rotate_left
  · simp only [Act.put, List.setIfInBounds_toArray, List.set_cons_zero, List.set_cons_succ, i64_w, i32_w]
    rfl
  refine take_ (i := 11) (N := some 17) (v := ?_) (a' := ?_) #[true, true, true, true, true, false, false, true, true, true, true, true, false, false, false] rfl rfl (by kernel_rfl) (fun _ _ _ h => h) (Or.inl ⟨by rfl, ?_⟩) hHeld ?_ ?_
  rotate_left
  · rintro w' ⟨s0, s1, s2⟩
    go_simp
    with_reducible rfl
  rotate_left
  · simp only [Act.put, List.setIfInBounds_toArray, List.set_cons_zero, List.set_cons_succ, i64_w, i32_w]
    rfl
  refine pure_ (i := 12) (N := some 18) (v := ?_) (a' := ?_) #[true, true, true, true, true, false, false, true, true, true, true, true, true, false, false] rfl rfl (by kernel_rfl) (fun _ _ _ h => h) (Or.inl ⟨by rfl, ?_⟩) ?_ ?_
  rotate_left
  · intro w'
    go_simp
    with_reducible rfl
  rotate_left
  · simp only [Act.put, List.setIfInBounds_toArray, List.set_cons_zero, List.set_cons_succ, i64_w, i32_w]
    rfl
  refine one_ (i := 5) (N := some 11) #[true, true, true, true, true, true, false, true, true, true, true, true, true, false, false] rfl rfl (by kernel_rfl) (by decide) (fun K hK => ?_)
  refine goes_ Try.func46 (by kernel_rfl) rfl #[.pointer (some ⟨p, 0, none⟩), .agg #[.int .i64 t, .int .i64 k]] (by rfl) rfl rfl (by simp only [List.map_toArray, List.map_cons, List.map_nil]; rfl) ?_
  with_reducible refine (refilled_any p s hs hold T mb t k ht hk w1.drew KP.out.drew).mono ?_
  rintro e w3 ⟨rfl, hB3⟩
  refine ⟨_, rfl, ?_⟩
  have m1 : w3.heap[w.heap.size + 1]? = some (.cells #[.int .i64 0, .int .i64 0] 79 (0, 0)) := (hB3.block _ (blk_lt' K1.out)).trans K1.out
  have m2 : w3.heap[w.heap.size + 1 + 1]? = some (.cells #[.int .i64 0, .int .i64 0] 76 (0, 0)) := (hB3.block _ (blk_lt' K2.out)).trans K2.out
  have c0 : w3.cell? ⟨w.heap.size + 1, 0, none⟩ = some (.int .i64 0) := (blk_cell' m1 0).trans rfl
  have c1 := two_cell m1
  have c2 := two_fro m1
  have c3 : ∀ i, w3.frozen? ⟨w.heap.size + 1, i, none⟩ = false := fun i => blk_frozen' m1 i
  refine hK.out _ _ ⟨pw_cell_below hB3 hHeld.1, pw_cell_below hB3 hHeld.2.1, pw_cell_below hB3 hHeld.2.2⟩ (fun hHeld => ?_)
  clear hK K
  refine norm_ (a' := ?_) ?_ ?_
  rotate_left
  · show Act.put _ (some 11) _ = _
    simp only [Act.put, List.setIfInBounds_toArray, List.set_cons_zero, List.set_cons_succ, i64_w, i32_w]
    rfl
  refine pure_ (i := 6) (N := some 12) (v := ?_) (a' := ?_) #[true, true, true, true, true, true, true, true, true, true, true, true, true, false, false] rfl rfl (by kernel_rfl) (fun _ _ _ h => h) (Or.inl ⟨by rfl, ?_⟩) ?_ ?_
  rotate_left
  · intro w'
    go_simp
    with_reducible rfl
  rotate_left
  · simp only [Act.put, List.setIfInBounds_toArray, List.set_cons_zero, List.set_cons_succ, i64_w, i32_w]
    rfl
  refine one_ (i := 13) (N := none) #[true, true, true, true, true, true, true, true, true, true, true, true, true, true, false] rfl rfl (by kernel_rfl) (by decide) (fun K hK => ?_)
  refine skip_ (w1 := ?_) (by rfl) rfl ?_ ?_
  rotate_left
  · go_simp
    rfl
  obtain ⟨w4, hw4⟩ : ∃ w4, (w3.setCell ⟨w.heap.size + 1, 0, none⟩ (.int .i64 ((t : Int) + 1))).setCell ⟨w.heap.size + 1, 1, none⟩ (.int .i64 (refT s t k)) = w4 := ⟨_, rfl⟩
  rw [hw4]
  have n1 : w4.heap[w.heap.size + 1]? = some (.cells #[.int .i64 ((t : Int) + 1), .int .i64 (refT s t k)] 79 (0, 0)) := by rw [← hw4]; exact two_put m1 _ _
  have n2 : w4.heap[w.heap.size + 1 + 1]? = some (.cells #[.int .i64 0, .int .i64 0] 76 (0, 0)) := by rw [← hw4]; exact (Below.heap_setCell _ _ _ _ (by simp)).trans ((Below.heap_setCell _ _ _ _ (by simp)).trans m2)
  have hB4 : Below w.heap.size w w4 := by rw [← hw4]; exact ((hB.drew.trans (hB3.mono (show w.heap.size ≤ w1.heap.size by omega))).setCell (by simp) _).setCell (by simp) _
  have d0 : w4.cell? ⟨w.heap.size + 1 + 1, 0, none⟩ = some (.int .i64 0) := (blk_cell' n2 0).trans rfl
  have d1 := two_cell n2
  have d2 := two_fro n2
  have d3 : ∀ i, w4.frozen? ⟨w.heap.size + 1 + 1, i, none⟩ = false := fun i => blk_frozen' n2 i
  refine hK.out _ _ ⟨by rw [← hw4]; exact cell_set (cell_set hHeld.1 _ (by simp)) _ (by simp), by rw [← hw4]; exact cell_set (cell_set hHeld.2.1 _ (by simp)) _ (by simp), by rw [← hw4]; exact cell_set (cell_set hHeld.2.2 _ (by simp; omega)) _ (by simp; omega)⟩ (fun hHeld => ?_)
  clear hK K
  refine last_ (i := 14) (N := none) #[true, true, true, true, true, true, true, true, true, true, true, true, true, true, true] rfl rfl (by kernel_rfl) (by decide) (fun K hK => ?_)
  refine skip_ (w1 := ?_) (by rfl) rfl ?_ ?_
  rotate_left
  · go_simp
    rfl
  refine hK.out _ _ ?_
  clear hK K
  refine done_ (by kernel_rfl) ?_
  refine calm_normal ?_
  go_wp2
  have e1 : ((w4.setCell ⟨w.heap.size + 1 + 1, 0, none⟩ (.int .i64 s.f2)).setCell ⟨w.heap.size + 1 + 1, 1, none⟩ (.int .i64 0)).heap[w.heap.size + 1]? = some (.cells #[.int .i64 ((t : Int) + 1), .int .i64 (refT s t k)] 79 (0, 0)) :=
    (Below.heap_setCell _ _ _ _ (by simp)).trans ((Below.heap_setCell _ _ _ _ (by simp)).trans n1)
  have e2 := two_put n2 (.int .i64 s.f2) (.int .i64 0)
  refine bodyPost_ret (results_cc rfl _ _ (w.heap.size + 1) (w.heap.size + 1 + 1) 79 76 #[.int .i64 ((t : Int) + 1), .int .i64 (refT s t k)] #[.int .i64 s.f2, .int .i64 0] (0, 0) (0, 0) _ _ rfl e1 Try.underlying79 rfl (by kernel_rfl) rfl e2 Try.underlying76 rfl (by kernel_rfl)) rfl ?_
  exact ⟨rfl, (hB4.setCell (by simp; omega) _).setCell (by simp; omega) _⟩
end Go.Proofs.Ytiglkpgoakibaab
