/- The best outcome from a state on (best): the walk of the recursion. Conditions: ticks up to 1000, tokens 0 to 20, it holds for 1 to 100 ticks. -/
import Derived.Test.YtiglkpgoakibaabWake
namespace Go.Proofs.Ytiglkpgoakibaab
open Go.RowKit Go.Shelf PTopRegrouped Go.Proofs.YtiglkpgoakibaabW.PrintWords Go.Proofs.YtiglkpgoakibaabW.PrintLast
attribute [local go_sem] Oper.semAt_some
set_option linter.unusedSimpArgs false

theorem Bel.known {w w' : World} {B mb : Nat} {F : Nat → Int → Int × Int} (h : Bel B mb w w') : True := trivial
theorem Known.drewn {w : World} {mb : Nat} {F : Nat → Int → Int × Int} (h : Known w mb F) : Known w.drew mb F := h
theorem PkAt.bel {w w' : World} {p : Nat} {s : S31} {hold T : Int} {mb B : Nat} (h : PkAt w p s hold T mb) (hb : Bel B mb w w') (hlt : p < B) (hne : p ≠ mb) : PkAt w' p s hold T mb := (hb.block _ hlt hne).trans h
def BestPost (F : Nat → Int → Int × Int) (mb t : Nat) (k : Int) (w : World) (e : Ending) (w' : World) : Prop :=
  e = .returned (outV (F t k)) ∧ Known w' mb F ∧ Bel w.heap.size mb w w'
def BestOk (F : Nat → Int → Int × Int) (p : Nat) (s : S31) (hold T : Int) (mb t k : Nat) : Prop :=
  ∀ w : World, PkAt w p s hold T mb → Known w mb F → Calls Try.prog 36 #[.pointer (some ⟨p, 0, none⟩), stV t k] w (BestPost F mb t k w)

set_option maxRecDepth 100000 in
set_option maxHeartbeats 4000000 in
theorem best_step (p : Nat) (s : S31) (hs : PkOk s) (hold T : Nat) (h0 : 1 ≤ hold) (h1 : hold ≤ 100) (hT : T ≤ 1000) (mb : Nat) (hpm : p ≠ mb) (t k : Nat) (ht : t ≤ T) (hk : k ≤ 20)
    (ih : ∀ t' k' : Nat, t < t' → t' ≤ T → k' ≤ 20 → BestOk (bestF s hold T) p s hold T mb t' k') : BestOk (bestF s hold T) p s hold T mb t k := by
  intro w hp hkn
  have hpl := blk_lt' hp
  have hmbl0 := hkn.lt
  have hmx : Try.prog.follows .mixedOrders = true := by kernel_rfl
  obtain ⟨F, hF⟩ : ∃ F, bestF s hold T = F := ⟨_, rfl⟩
  rw [hF] at hkn ih ⊢
  have HF := Lib.hid hF
  obtain ⟨⟨x1, x2⟩, bb, hlk, hbx⟩ := hkn.look (show t ≤ 1000 by omega) hk
  obtain ⟨τ, hτ⟩ : ∃ τ : Int, (t : Int) = τ := ⟨_, rfl⟩
  obtain ⟨κ, hκ⟩ : ∃ κ : Int, (k : Int) = κ := ⟨_, rfl⟩
  obtain ⟨η, hη⟩ : ∃ η : Int, (hold : Int) = η := ⟨_, rfl⟩
  obtain ⟨Θ, hΘ⟩ : ∃ Θ : Int, (T : Int) = Θ := ⟨_, rfl⟩
  rw [hη, hΘ] at hp ih
  rw [hτ, hκ] at hlk ⊢
  obtain ⟨w1, hw1⟩ : ∃ w1, (w.alloc (.cells #[.int .i64 τ, .int .i64 κ] 79)).alloc (.cells #[.int .i64 0, .int .i64 0] 76) = w1 := ⟨_, rfl⟩
  have hB : Below w.heap.size w w1 := by rw [← hw1]; exact ((Below.refl _ w).alloc (Nat.le_refl _) _).alloc (by simp) _
  have hz : w1.heap.size = w.heap.size + 2 := by rw [← hw1]; simp
  have k0 : w1.heap[w.heap.size]? = some (.cells #[.int .i64 τ, .int .i64 κ] 79 (0, 0)) := by rw [← hw1]; exact allocOld (allocNew _ _ _ rfl) _
  have k1 : w1.heap[w.heap.size + 1]? = some (.cells #[.int .i64 0, .int .i64 0] 76 (0, 0)) := by rw [← hw1]; exact allocNew _ _ _ (by simp)
  have kp : PkAt w1 p s η Θ mb := hp.below hB
  have kk : Known w1 mb F := hkn.below hB
  have q0 : w1.cell? ⟨w.heap.size, 0, none⟩ = some (.int .i64 τ) := (blk_cell' k0 0).trans rfl
  have q1 : w1.cell? ⟨w.heap.size, 1, none⟩ = some (.int .i64 κ) := (blk_cell' k0 1).trans rfl
  have q6 : w1.cell? ⟨p, 6, none⟩ = some (.int .i64 Θ) := (blk_cell' kp 6).trans rfl
  have q7 : w1.cell? ⟨p, 7, none⟩ = some (.map (some mb)) := (blk_cell' kp 7).trans rfl
  have HLK : Hid (∀ w' : World, w'.heap[mb]? = w1.heap[mb]? → (Instr.lookup 88 (.map (some mb)) (.agg #[.int .i64 τ, .int .i64 κ]) true).run Try.prog w' = .ok (.tuple #[.agg #[.int .i64 x1, .int .i64 x2], .bool bb]) w') :=
    fun w' he => hlk w' (he.trans (hB.block _ hmbl0))
  have HIH := Lib.hid ih
  have HKP := Lib.hid kp
  have HKK := Lib.hid kk
  have HK0 := Lib.hid k0
  have HK1 := Lib.hid k1
  have HBX := Lib.hid hbx
  have HT := Lib.hid hτ
  have HK := Lib.hid hκ
  have HTH := Lib.hid hΘ
  have HH := Lib.hid hη
  clear hlk ih kp kk k0 hbx hkn hp hτ hκ hη hF
  by_cases hge : T ≤ t
  · have g1 : Θ ≤ τ := by have := HT.out; omega
    have hval : F t κ = (0, 0) := by rw [← HF.out, bestF, dif_pos hge]
    have HV := Lib.hid hval
    clear hval hge
    have c4 : w1.cell? ⟨w.heap.size + 1, 1, none⟩ = some (.int .i64 0) := (blk_cell' k1 1).trans rfl
    have c0 : w1.cell? ⟨w.heap.size + 1, 0, none⟩ = some (.int .i64 0) := (blk_cell' k1 0).trans rfl
    have c3 : ∀ i, w1.frozen? ⟨w.heap.size + 1, i, none⟩ = false := fun i => blk_frozen' k1 i
    go_enter Try.func36, Try.ntmps36
    go_wp2
    clear hw1
    refine wp_calm ?_
    refine start_ (n := 7) (S := fun w' => w'.cell? ⟨w.heap.size, 0, none⟩ = some (.int .i64 τ) ∧ w'.cell? ⟨p, 6, none⟩ = some (.int .i64 Θ)) (ds := []) #[false, false, false, false, false, false, false] (by kernel_rfl) rfl rfl ⟨q0, q6⟩ (fun hHeld => ?_)
    refine pure_ (i := 0) (N := some 14) (v := ?_) (a' := ?_) #[true, false, false, false, false, false, false] rfl rfl (by kernel_rfl) (fun _ _ _ h => h) (Or.inl ⟨by rfl, ?_⟩) ?_ ?_
    rotate_left
    · intro w'
      go_simp
      with_reducible rfl
    rotate_left
    · simp only [Act.put, List.setIfInBounds_toArray, List.set_cons_zero, List.set_cons_succ, i64_w, i32_w]
      rfl
    refine pure_ (i := 2) (N := some 16) (v := ?_) (a' := ?_) #[true, false, true, false, false, false, false] rfl rfl (by kernel_rfl) (fun _ _ _ h => h) (Or.inl ⟨by rfl, ?_⟩) ?_ ?_
    rotate_left
    · intro w'
      go_simp
      with_reducible rfl
    rotate_left
    · simp only [Act.put, List.setIfInBounds_toArray, List.set_cons_zero, List.set_cons_succ, i64_w, i32_w]
      rfl
    refine pure_ (i := 3) (N := some 17) (v := ?_) (a' := ?_) #[true, false, true, true, false, false, false] rfl rfl (by kernel_rfl) (fun _ _ _ h => h) (Or.inl ⟨by rfl, ?_⟩) ?_ ?_
    rotate_left
    · intro w'
      go_simp
      with_reducible rfl
    rotate_left
    · simp only [Act.put, List.setIfInBounds_toArray, List.set_cons_zero, List.set_cons_succ, i64_w, i32_w]
      rfl
    refine pure_ (i := 4) (N := some 18) (v := ?_) (a' := ?_) #[true, false, true, true, true, false, false] rfl rfl (by kernel_rfl) (fun _ _ _ h => h) (Or.inl ⟨by rfl, ?_⟩) ?_ ?_
    rotate_left
    · intro w'
      go_simp
      with_reducible rfl
    rotate_left
    · simp only [Act.put, List.setIfInBounds_toArray, List.set_cons_zero, List.set_cons_succ, i64_w, i32_w]
      rfl
    refine take_ (i := 1) (N := some 15) (v := ?_) (a' := ?_) #[true, true, true, true, true, false, false] rfl rfl (by kernel_rfl) (fun _ _ _ h => h) (Or.inl ⟨by rfl, ?_⟩) hHeld ?_ ?_
    rotate_left
    · rintro w' ⟨s0, s1⟩
      go_simp
      with_reducible rfl
    rotate_left
    · simp only [Act.put, List.setIfInBounds_toArray, List.set_cons_zero, List.set_cons_succ, i64_w, i32_w]
      rfl
    refine take_ (i := 5) (N := some 19) (v := ?_) (a' := ?_) #[true, true, true, true, true, true, false] rfl rfl (by kernel_rfl) (fun _ _ _ h => h) (Or.inl ⟨by rfl, ?_⟩) hHeld ?_ ?_
    rotate_left
    · rintro w' ⟨s0, s1⟩
      go_simp
      with_reducible rfl
    rotate_left
    · simp only [Act.put, List.setIfInBounds_toArray, List.set_cons_zero, List.set_cons_succ, i64_w, i32_w]
      rfl
    refine pure_ (i := 6) (N := some 20) (v := ?_) (a' := ?_) #[true, true, true, true, true, true, true] rfl rfl (by kernel_rfl) (fun _ _ _ h => h) (Or.inl ⟨by rfl, ?_⟩) ?_ ?_
    rotate_left
    · intro w'
      go_simp
      with_reducible rfl
    rotate_left
    · simp only [Act.put, List.setIfInBounds_toArray, List.set_cons_zero, List.set_cons_succ, i64_w, i32_w]
      rfl
    refine done_ (by kernel_rfl) ?_
    refine calm_normal ?_
    go_wp2
    refine bodyPost_ret (results_cell_row rfl _ _ (w.heap.size + 1) 76 #[.int .i64 0, .int .i64 0] (0, 0) _ rfl (two_put k1 _ _) Try.underlying76 rfl (by kernel_rfl)) rfl ?_
    refine ⟨by rw [HV.out], ?_, ?_⟩
    · exact HKK.out.kept (row := some (w.heap.size + 1)) ⟨rfl, rfl, rfl, by simp [World.setCell], fun i hi hne => (Below.heap_setCell _ _ _ _ (fun e => hne (by rw [e]))).trans (Below.heap_setCell _ _ _ _ (fun e => hne (by rw [e])))⟩ (fun e => by cases e; omega)
    · exact Bel.of_below ((hB.setCell (by simp) _).setCell (by simp) _).drew
  · have g1 : decide (Θ ≤ τ) = false := decide_eq_false (by have := HT.out; omega)
    go_enter Try.func36, Try.ntmps36
    go_wp2
    clear hw1
    refine wp_calm ?_
    refine start_ (n := 7) (S := fun w' => w'.cell? ⟨w.heap.size, 0, none⟩ = some (.int .i64 τ) ∧ w'.cell? ⟨p, 6, none⟩ = some (.int .i64 Θ)) (ds := []) #[false, false, false, false, false, false, false] (by kernel_rfl) rfl rfl ⟨q0, q6⟩ (fun hHeld => ?_)
    refine pure_ (i := 0) (N := some 14) (v := ?_) (a' := ?_) #[true, false, false, false, false, false, false] rfl rfl (by kernel_rfl) (fun _ _ _ h => h) (Or.inl ⟨by rfl, ?_⟩) ?_ ?_
    rotate_left
    · intro w'
      go_simp
      with_reducible rfl
    rotate_left
    · simp only [Act.put, List.setIfInBounds_toArray, List.set_cons_zero, List.set_cons_succ, i64_w, i32_w]
      rfl
    refine pure_ (i := 2) (N := some 16) (v := ?_) (a' := ?_) #[true, false, true, false, false, false, false] rfl rfl (by kernel_rfl) (fun _ _ _ h => h) (Or.inl ⟨by rfl, ?_⟩) ?_ ?_
    rotate_left
    · intro w'
      go_simp
      with_reducible rfl
    rotate_left
    · simp only [Act.put, List.setIfInBounds_toArray, List.set_cons_zero, List.set_cons_succ, i64_w, i32_w]
      rfl
    refine pure_ (i := 3) (N := some 17) (v := ?_) (a' := ?_) #[true, false, true, true, false, false, false] rfl rfl (by kernel_rfl) (fun _ _ _ h => h) (Or.inl ⟨by rfl, ?_⟩) ?_ ?_
    rotate_left
    · intro w'
      go_simp
      with_reducible rfl
    rotate_left
    · simp only [Act.put, List.setIfInBounds_toArray, List.set_cons_zero, List.set_cons_succ, i64_w, i32_w]
      rfl
    refine pure_ (i := 4) (N := some 18) (v := ?_) (a' := ?_) #[true, false, true, true, true, false, false] rfl rfl (by kernel_rfl) (fun _ _ _ h => h) (Or.inl ⟨by rfl, ?_⟩) ?_ ?_
    rotate_left
    · intro w'
      go_simp
      with_reducible rfl
    rotate_left
    · simp only [Act.put, List.setIfInBounds_toArray, List.set_cons_zero, List.set_cons_succ, i64_w, i32_w]
      rfl
    refine take_ (i := 1) (N := some 15) (v := ?_) (a' := ?_) #[true, true, true, true, true, false, false] rfl rfl (by kernel_rfl) (fun _ _ _ h => h) (Or.inl ⟨by rfl, ?_⟩) hHeld ?_ ?_
    rotate_left
    · rintro w' ⟨s0, s1⟩
      go_simp
      with_reducible rfl
    rotate_left
    · simp only [Act.put, List.setIfInBounds_toArray, List.set_cons_zero, List.set_cons_succ, i64_w, i32_w]
      rfl
    refine take_ (i := 5) (N := some 19) (v := ?_) (a' := ?_) #[true, true, true, true, true, true, false] rfl rfl (by kernel_rfl) (fun _ _ _ h => h) (Or.inl ⟨by rfl, ?_⟩) hHeld ?_ ?_
    rotate_left
    · rintro w' ⟨s0, s1⟩
      go_simp
      with_reducible rfl
    rotate_left
    · simp only [Act.put, List.setIfInBounds_toArray, List.set_cons_zero, List.set_cons_succ, i64_w, i32_w]
      rfl
    refine pure_ (i := 6) (N := some 20) (v := ?_) (a' := ?_) #[true, true, true, true, true, true, true] rfl rfl (by kernel_rfl) (fun _ _ _ h => h) (Or.inl ⟨by rfl, ?_⟩) ?_ ?_
    rotate_left
    · intro w'
      go_simp
      with_reducible rfl
    rotate_left
    · simp only [Act.put, List.setIfInBounds_toArray, List.set_cons_zero, List.set_cons_succ, i64_w, i32_w]
      rfl
    refine done_ (by kernel_rfl) ?_
    refine calm_normal ?_
    go_wp2
    obtain ⟨w2, hw2⟩ : ∃ w2, w1.drew = w2 := ⟨_, rfl⟩
    rw [hw2]
    have q0 : w2.cell? ⟨w.heap.size, 0, none⟩ = some (.int .i64 τ) := by rw [← hw2]; exact q0
    have q1 : w2.cell? ⟨w.heap.size, 1, none⟩ = some (.int .i64 κ) := by rw [← hw2]; exact q1
    have q7 : w2.cell? ⟨p, 7, none⟩ = some (.map (some mb)) := by rw [← hw2]; exact q7
    have HLK : Hid (∀ w' : World, w'.heap[mb]? = w2.heap[mb]? → (Instr.lookup 88 (.map (some mb)) (.agg #[.int .i64 τ, .int .i64 κ]) true).run Try.prog w' = .ok (.tuple #[.agg #[.int .i64 x1, .int .i64 x2], .bool bb]) w') := by rw [← hw2]; exact HLK.out
    have hB2 : Below w.heap.size w w2 := by rw [← hw2]; exact hB.drew
    have hz2 : w2.heap.size = w.heap.size + 2 := by rw [← hw2]; exact hz
    have HKP : Hid (PkAt w2 p s η Θ mb) := by rw [← hw2]; exact HKP.out
    have HKK : Hid (Known w2 mb F) := by rw [← hw2]; exact HKK.out
    have HK0 : Hid (w2.heap[w.heap.size]? = some (.cells #[.int .i64 τ, .int .i64 κ] 79 (0, 0))) := by rw [← hw2]; exact HK0.out
    have HK1 : Hid (w2.heap[w.heap.size + 1]? = some (.cells #[.int .i64 0, .int .i64 0] 76 (0, 0))) := by rw [← hw2]; exact HK1.out
    have hmbl : mb < w2.heap.size := by omega
    clear hw2 k1 q6
    refine wp_calm ?_
    refine start_ (n := 12) (S := fun w' => w'.cell? ⟨w.heap.size, 0, none⟩ = some (.int .i64 τ) ∧ w'.cell? ⟨w.heap.size, 1, none⟩ = some (.int .i64 κ) ∧ w'.cell? ⟨p, 7, none⟩ = some (.map (some mb)) ∧ (Instr.lookup 88 (.map (some mb)) (.agg #[.int .i64 τ, .int .i64 κ]) true).run Try.prog w' = .ok (.tuple #[.agg #[.int .i64 x1, .int .i64 x2], .bool bb]) w') (ds := [10]) #[false, false, false, false, false, false, false, false, false, false, false, false] (by kernel_rfl) rfl rfl ⟨q0, q1, q7, HLK.out w2.drew rfl⟩ (fun hHeld => ?_)
    refine pure_ (i := 0) (N := some 23) (v := ?_) (a' := ?_) #[true, false, false, false, false, false, false, false, false, false, false, false] rfl rfl (by kernel_rfl) (fun _ _ _ h => h) (Or.inl ⟨by rfl, ?_⟩) ?_ ?_
    rotate_left
    · intro w'
      go_simp
      with_reducible rfl
    rotate_left
    · simp only [Act.put, List.setIfInBounds_toArray, List.set_cons_zero, List.set_cons_succ, i64_w, i32_w]
      rfl
    refine pure_ (i := 1) (N := some 24) (v := ?_) (a' := ?_) #[true, true, false, false, false, false, false, false, false, false, false, false] rfl rfl (by kernel_rfl) (fun _ _ _ h => h) (Or.inl ⟨by rfl, ?_⟩) ?_ ?_
    rotate_left
    · intro w'
      go_simp
      with_reducible rfl
    rotate_left
    · simp only [Act.put, List.setIfInBounds_toArray, List.set_cons_zero, List.set_cons_succ, i64_w, i32_w]
      rfl
    refine pure_ (i := 2) (N := some 25) (v := ?_) (a' := ?_) #[true, true, true, false, false, false, false, false, false, false, false, false] rfl rfl (by kernel_rfl) (fun _ _ _ h => h) (Or.inl ⟨by rfl, ?_⟩) ?_ ?_
    rotate_left
    · intro w'
      go_simp
      with_reducible rfl
    rotate_left
    · simp only [Act.put, List.setIfInBounds_toArray, List.set_cons_zero, List.set_cons_succ, i64_w, i32_w]
      rfl
    refine take_ (i := 3) (N := some 26) (v := ?_) (a' := ?_) #[true, true, true, true, false, false, false, false, false, false, false, false] rfl rfl (by kernel_rfl) (fun _ _ _ h => h) (Or.inl ⟨by rfl, ?_⟩) hHeld ?_ ?_
    rotate_left
    · rintro w' ⟨s0, s1, s2, s3⟩
      go_simp
      with_reducible rfl
    rotate_left
    · simp only [Act.put, List.setIfInBounds_toArray, List.set_cons_zero, List.set_cons_succ, i64_w, i32_w]
      rfl
    refine take_ (i := 4) (N := some 27) (v := ?_) (a' := ?_) #[true, true, true, true, true, false, false, false, false, false, false, false] rfl rfl (by kernel_rfl) (fun _ _ _ h => h) (Or.inl ⟨by rfl, ?_⟩) hHeld ?_ ?_
    rotate_left
    · rintro w' ⟨s0, s1, s2, s3⟩
      go_simp
      with_reducible rfl
    rotate_left
    · simp only [Act.put, List.setIfInBounds_toArray, List.set_cons_zero, List.set_cons_succ, i64_w, i32_w]
      rfl
    refine take_ (i := 5) (N := some 28) (v := ?_) (a' := ?_) #[true, true, true, true, true, true, false, false, false, false, false, false] rfl rfl (by kernel_rfl) (fun _ _ _ h => h) (Or.inl ⟨by rfl, ?_⟩) hHeld ?_ ?_
    rotate_left
    · rintro w' ⟨s0, s1, s2, s3⟩
      go_simp
      with_reducible rfl
    rotate_left
    · simp only [Act.put, List.setIfInBounds_toArray, List.set_cons_zero, List.set_cons_succ, i64_w, i32_w]
      rfl
    refine pure_ (i := 6) (N := some 22) (v := ?_) (a' := ?_) #[true, true, true, true, true, true, true, false, false, false, false, false] rfl rfl (by kernel_rfl) (fun _ _ _ h => h) (Or.inl ⟨by rfl, ?_⟩) ?_ ?_
    rotate_left
    · intro w'
      go_simp
      with_reducible rfl
    rotate_left
    · simp only [Act.put, List.setIfInBounds_toArray, List.set_cons_zero, List.set_cons_succ, i64_w, i32_w]
      rfl
    refine pure_ (i := 7) (N := some 29) (v := ?_) (a' := ?_) #[true, true, true, true, true, true, true, true, false, false, false, false] rfl rfl (by kernel_rfl) (fun _ _ _ h => h) (Or.inl ⟨by rfl, ?_⟩) ?_ ?_
    rotate_left
    · intro w'
      go_simp
      with_reducible rfl
    rotate_left
    · simp only [Act.put, List.setIfInBounds_toArray, List.set_cons_zero, List.set_cons_succ, i64_w, i32_w]
      rfl
    refine pure_ (i := 8) (N := some 30) (v := ?_) (a' := ?_) #[true, true, true, true, true, true, true, true, true, false, false, false] rfl rfl (by kernel_rfl) (fun _ _ _ h => h) (Or.inl ⟨by rfl, ?_⟩) ?_ ?_
    rotate_left
    · intro w'
      go_simp
      with_reducible rfl
    rotate_left
    · simp only [Act.put, List.setIfInBounds_toArray, List.set_cons_zero, List.set_cons_succ, i64_w, i32_w]
      rfl
    refine one_ (i := 9) (N := some 5) #[true, true, true, true, true, true, true, true, true, true, false, false] rfl rfl (by kernel_rfl) (by decide) (fun K hK => ?_)
    refine value_ (w1 := ?_) (v := ?_) (by rfl) rfl ?_ ?_
    rotate_left 2
    · go_simp
      constructor
      · rfl
      · rfl
    obtain ⟨w3, hw3⟩ : ∃ w3, (w2.alloc (.cells #[.int .i64 0, .int .i64 0] 76)).drew = w3 := ⟨_, rfl⟩
    rw [hw3]
    have hB3 : Below w2.heap.size w2 w3 := by rw [← hw3]; exact ((Below.refl _ _).alloc (Nat.le_refl _) _).drew
    have hz3 : w3.heap.size = w2.heap.size + 1 := by rw [← hw3]; show (w2.alloc _).heap.size = _; simp
    have m3 : w3.heap[w.heap.size + 2]? = some (.cells #[.int .i64 0, .int .i64 0] 76 (0, 0)) := by rw [← hw3]; exact allocNew _ _ _ hz2.symm
    have d4 : w3.cell? ⟨w.heap.size + 2, 1, none⟩ = some (.int .i64 0) := (blk_cell' m3 1).trans rfl
    have d0 : w3.cell? ⟨w.heap.size + 2, 0, none⟩ = some (.int .i64 0) := (blk_cell' m3 0).trans rfl
    have d3 : ∀ i, w3.frozen? ⟨w.heap.size + 2, i, none⟩ = false := fun i => blk_frozen' m3 i
    refine hK.out _ _ ⟨pw_cell_below hB3 q0, pw_cell_below hB3 q1, pw_cell_below hB3 q7, HLK.out w3 (hB3.block _ hmbl)⟩ (fun hHeld => ?_)
    clear hK K
    refine norm_ (a' := ?_) ?_ ?_
    rotate_left
    · show Act.put _ (some 5) _ = _
      simp only [Act.put, List.setIfInBounds_toArray, List.set_cons_zero, List.set_cons_succ, i64_w, i32_w]
      rfl
    refine last_ (i := 10) (N := none) #[true, true, true, true, true, true, true, true, true, true, true, false] rfl rfl (by kernel_rfl) (by decide) (fun K hK => ?_)
    refine skip_ (w1 := ?_) (by rfl) rfl ?_ ?_
    rotate_left
    · go_simp
      rfl
    refine hK.out _ _ ?_
    clear hK K
    refine pure_ (i := 11) (N := some 6) (v := ?_) (a' := ?_) #[true, true, true, true, true, true, true, true, true, true, true, true] rfl rfl (by kernel_rfl) (fun _ _ _ h => h) (Or.inl ⟨by rfl, ?_⟩) ?_ ?_
    rotate_left
    · intro w'
      go_simp
      with_reducible rfl
    rotate_left
    · simp only [Act.put, List.setIfInBounds_toArray, List.set_cons_zero, List.set_cons_succ, i64_w, i32_w]
      rfl
    refine done_ (by kernel_rfl) ?_
    refine calm_normal ?_
    obtain ⟨w4, hw4⟩ : ∃ w4, (w3.setCell ⟨w.heap.size + 2, 0, none⟩ (.int .i64 x1)).setCell ⟨w.heap.size + 2, 1, none⟩ (.int .i64 x2) = w4 := ⟨_, rfl⟩
    have hB4 : Below w2.heap.size w2 w4 := by rw [← hw4]; exact (hB3.setCell (by simp; omega) _).setCell (by simp; omega) _
    have hz4 : w4.heap.size = w.heap.size + 3 := by rw [← hw4]; simp [World.setCell]; omega
    have n3 : w4.heap[w.heap.size + 2]? = some (.cells #[.int .i64 x1, .int .i64 x2] 76 (0, 0)) := by rw [← hw4]; exact two_put m3 _ _
    have k0 : w4.heap[w.heap.size]? = some (.cells #[.int .i64 τ, .int .i64 κ] 79 (0, 0)) := (hB4.block _ (by omega)).trans HK0.out
    have k1 : w4.heap[w.heap.size + 1]? = some (.cells #[.int .i64 0, .int .i64 0] 76 (0, 0)) := (hB4.block _ (by omega)).trans HK1.out
    have kp : PkAt w4 p s η Θ mb := HKP.out.below hB4
    have kk : Known w4 mb F := HKK.out.below hB4
    have hB04 : Below w.heap.size w w4 := hB2.trans (hB4.mono (by omega))
    rw [hw4]
    clear hw4 d0 d3 d4 m3 hHeld
    cases bb
    · have hrk := refT_in hs t (show (0 : Int) ≤ k by omega) (show (k : Int) ≤ 20 by omega)
      obtain ⟨kn, hkn⟩ := Int.eq_ofNat_of_zero_le hrk.1
      obtain ⟨τ1, hτ1⟩ : ∃ τ1 : Int, ((t + 1 : Nat) : Int) = τ1 := ⟨_, rfl⟩
      obtain ⟨ρ, hρ⟩ : ∃ ρ : Int, refT s t k = ρ := ⟨_, rfl⟩
      obtain ⟨⟨b1, b2⟩, hbv⟩ : ∃ x, F (t + 1) ρ = x := ⟨_, rfl⟩
      obtain ⟨r1, hr1⟩ : ∃ r1, wrap64 (b1 + s.f2) = r1 := ⟨_, rfl⟩
      obtain ⟨r2, hr2⟩ : ∃ r2, wrap64 (b2 + 0) = r2 := ⟨_, rfl⟩
      have HST : Hid (Calls Try.prog 40 #[.pointer (some ⟨p, 0, none⟩), .agg #[.int .i64 τ, .int .i64 κ]] w4 fun e w' => e = .returned (.tuple #[.agg #[.int .i64 τ1, .int .i64 ρ], .agg #[.int .i64 s.f2, .int .i64 0]]) ∧ Below w4.heap.size w4 w') := by
        have h := stay_any p s hs η Θ mb t k (by omega) hk w4 kp
        rw [hτ1, hρ, HT.out, HK.out] at h
        exact h
      have HB1 : Hid (∀ W : World, PkAt W p s η Θ mb → Known W mb F → Calls Try.prog 36 #[.pointer (some ⟨p, 0, none⟩), .agg #[.int .i64 τ1, .int .i64 ρ]] W fun e w' => e = .returned (.agg #[.int .i64 b1, .int .i64 b2]) ∧ Known w' mb F ∧ Bel W.heap.size mb W w') := fun W h1 h2 => by
        have h := HIH.out (t + 1) kn (by omega) (by omega) (by omega) W h1 h2
        unfold BestPost at h
        rw [← hkn, hτ1, hρ, hbv] at h
        exact h
      have HA1 : Hid (∀ W : World, Calls Try.prog 41 #[.agg #[.int .i64 b1, .int .i64 b2], .agg #[.int .i64 s.f2, .int .i64 0]] W fun e w' => e = .returned (.agg #[.int .i64 r1, .int .i64 r2]) ∧ Below W.heap.size W w') := fun W =>
        sleep_outcome_and.calls b1 b2 s.f2 0 r1 r2 W (by unfold sleep_outcome_and.f; rw [hr1, hr2])
      have HRB : Hid (andO (F (t + 1) ρ) (s.f2, 0) = (r1, r2)) := by rw [hbv]; unfold andO; rw [← hr1, ← hr2]; exact rfl
      have HRHO := Lib.hid hρ
      have q0 : w4.cell? ⟨w.heap.size, 0, none⟩ = some (.int .i64 τ) := (blk_cell' k0 0).trans rfl
      have q1 : w4.cell? ⟨w.heap.size, 1, none⟩ = some (.int .i64 κ) := (blk_cell' k0 1).trans rfl
      have KP := Lib.hid kp
      have KK := Lib.hid kk
      have K0 := Lib.hid k0
      have K1 := Lib.hid k1
      clear hkn hτ1 hρ hbv hr1 hr2 hrk kp kk k0 k1 n3 q7
      go_wp2_with (go_at_call 40; refine HST.out.mono ?_; rintro e w5 ⟨rfl, hB5⟩)
      obtain ⟨w6, hw6⟩ : ∃ w6, (w5.alloc (.cells #[.int .i64 τ1, .int .i64 ρ] 79)).alloc (.cells #[.int .i64 s.f2, .int .i64 0] 76) = w6 := ⟨_, rfl⟩
      rw [hw6]
      have hz6 : w6.heap.size = w5.heap.size + 2 := by rw [← hw6]; simp
      have hB46 : Below w4.heap.size w4 w6 := by rw [← hw6]; exact (hB5.alloc hB5.size _).alloc (by simp; have := hB5.size; omega) _
      have ka : w6.heap[w5.heap.size]? = some (.cells #[.int .i64 τ1, .int .i64 ρ] 79 (0, 0)) := by rw [← hw6]; exact allocOld (allocNew _ _ _ rfl) _
      have kb : w6.heap[w5.heap.size + 1]? = some (.cells #[.int .i64 s.f2, .int .i64 0] 76 (0, 0)) := by rw [← hw6]; exact allocNew _ _ _ (by simp)
      have KP6 := Lib.hid (KP.out.below hB46)
      have KK6 := Lib.hid (KK.out.below hB46)
      have K06 := Lib.hid ((hB46.block _ (blk_lt' K0.out)).trans K0.out)
      have K16 := Lib.hid ((hB46.block _ (blk_lt' K1.out)).trans K1.out)
      have hz5 := hB5.size
      have pa0 : w6.cell? ⟨w5.heap.size, 0, none⟩ = some (.int .i64 τ1) := (blk_cell' ka 0).trans rfl
      have pa1 : w6.cell? ⟨w5.heap.size, 1, none⟩ = some (.int .i64 ρ) := (blk_cell' ka 1).trans rfl
      have pb0 : w6.cell? ⟨w5.heap.size + 1, 0, none⟩ = some (.int .i64 s.f2) := (blk_cell' kb 0).trans rfl
      have pb1 : w6.cell? ⟨w5.heap.size + 1, 1, none⟩ = some (.int .i64 0) := (blk_cell' kb 1).trans rfl
      clear hw6 ka kb hB5 HST
      refine wp_calm ?_
      refine start_ (n := 7) (S := fun w' => w'.cell? ⟨w5.heap.size, 0, none⟩ = some (.int .i64 τ1) ∧ w'.cell? ⟨w5.heap.size, 1, none⟩ = some (.int .i64 ρ) ∧ w'.cell? ⟨w5.heap.size + 1, 0, none⟩ = some (.int .i64 s.f2) ∧ w'.cell? ⟨w5.heap.size + 1, 1, none⟩ = some (.int .i64 0) ∧ Known w' mb F ∧ PkAt w' p s η Θ mb ∧ Bel w6.heap.size mb w6 w') (ds := [6]) #[false, false, false, false, false, false, false] (by kernel_rfl) rfl rfl ⟨pa0, pa1, pb0, pb1, KK6.out.drewn, KP6.out.drew, (Bel.refl _ _ _).drew⟩ (fun hHeld => ?_)
      refine pure_ (i := 0) (N := some 39) (v := ?_) (a' := ?_) #[true, false, false, false, false, false, false] rfl rfl (by kernel_rfl) (fun _ _ _ h => h) (Or.inl ⟨by rfl, ?_⟩) ?_ ?_
      rotate_left
      · intro w'
        go_simp
        with_reducible rfl
      rotate_left
      · simp only [Act.put, List.setIfInBounds_toArray, List.set_cons_zero, List.set_cons_succ, i64_w, i32_w]
        rfl
      refine take_ (i := 1) (N := some 40) (v := ?_) (a' := ?_) #[true, true, false, false, false, false, false] rfl rfl (by kernel_rfl) (fun _ _ _ h => h) (Or.inl ⟨by rfl, ?_⟩) hHeld ?_ ?_
      rotate_left
      · rintro w' ⟨s0, s1, s2, s3, s4, s5, s6⟩
        go_simp
        with_reducible rfl
      rotate_left
      · simp only [Act.put, List.setIfInBounds_toArray, List.set_cons_zero, List.set_cons_succ, i64_w, i32_w]
        rfl
      refine take_ (i := 3) (N := some 42) (v := ?_) (a' := ?_) #[true, true, false, true, false, false, false] rfl rfl (by kernel_rfl) (fun _ _ _ h => h) (Or.inl ⟨by rfl, ?_⟩) hHeld ?_ ?_
      rotate_left
      · rintro w' ⟨s0, s1, s2, s3, s4, s5, s6⟩
        go_simp
        with_reducible rfl
      rotate_left
      · simp only [Act.put, List.setIfInBounds_toArray, List.set_cons_zero, List.set_cons_succ, i64_w, i32_w]
        rfl
      refine join_ (σ := Nat) 1 #[true, true, true, true, true, true, false] (fun a9 => [(41, .agg #[.int .i64 b1, .int .i64 b2]), (43, .agg #[.int .i64 r1, .int .i64 r2]), (9, .pointer (some ⟨a9, 0, none⟩))]) (fun a9 w' => (w'.cell? ⟨w5.heap.size, 0, none⟩ = some (.int .i64 τ1) ∧ w'.cell? ⟨w5.heap.size, 1, none⟩ = some (.int .i64 ρ) ∧ w'.cell? ⟨w5.heap.size + 1, 0, none⟩ = some (.int .i64 s.f2) ∧ w'.cell? ⟨w5.heap.size + 1, 1, none⟩ = some (.int .i64 0) ∧ Known w' mb F ∧ PkAt w' p s η Θ mb ∧ Bel w6.heap.size mb w6 w') ∧ w'.heap[a9]? = some (.cells #[.int .i64 0, .int .i64 0] 76 (0, 0)) ∧ w6.heap.size ≤ a9) ?_ ?_
      rotate_left
      · intro hCont
        refine two_ (i := 2) (j := 5) (Ni := some 41) (Nj := some 9) #[true, true, true, true, false, false, false] #[true, true, false, true, false, true, false] rfl rfl rfl rfl (by kernel_rfl) (by decide) (by decide) (fun K hK => ?_) (fun K hK => ?_)
        · skip
          refine goes_ Try.func36 (by kernel_rfl) rfl #[.pointer (some ⟨p, 0, none⟩), .agg #[.int .i64 τ1, .int .i64 ρ]] (by rfl) rfl rfl (by simp only [List.map_toArray, List.map_cons, List.map_nil]; rfl) ?_
          with_reducible refine (HB1.out _ hHeld.2.2.2.2.2.1 hHeld.2.2.2.2.1).mono ?_
          rintro e V0 ⟨rfl, hk3, hb3⟩
          refine ⟨_, rfl, ?_⟩
          have hb := hHeld.2.2.2.2.2.2.trans (hb3.mono hHeld.2.2.2.2.2.2.size)
          refine hK.out _ _ ⟨(hb.at_ (by omega) (by omega)).trans pa0, (hb.at_ (by omega) (by omega)).trans pa1, (hb.at_ (by omega) (by omega)).trans pb0, (hb.at_ (by omega) (by omega)).trans pb1, hk3, KP6.out.bel hb (by omega) hpm, hb⟩ (fun hHeld => ?_)
          clear hK K
          refine norm_ (a' := ?_) ?_ ?_
          rotate_left
          · show Act.put _ (some 41) _ = _
            simp only [Act.put, List.setIfInBounds_toArray, List.set_cons_zero, List.set_cons_succ, i64_w, i32_w]
            rfl
          refine two_ (i := 4) (j := 5) (Ni := some 43) (Nj := some 9) #[true, true, true, true, true, false, false] #[true, true, true, true, false, true, false] rfl rfl rfl rfl (by kernel_rfl) (by decide) (by decide) (fun K hK => ?_) (fun K hK => ?_)
          · skip
            refine goes_ Try.func41 (by kernel_rfl) rfl #[.agg #[.int .i64 b1, .int .i64 b2], .agg #[.int .i64 s.f2, .int .i64 0]] (by rfl) rfl rfl (by simp only [List.map_toArray, List.map_cons, List.map_nil]; rfl) ?_
            with_reducible refine (HA1.out _).mono ?_
            rintro e V1 ⟨rfl, hb3⟩
            refine ⟨_, rfl, ?_⟩
            have hb := hHeld.2.2.2.2.2.2.trans (Bel.of_below (g := mb) (hb3.mono hHeld.2.2.2.2.2.2.size))
            have hk3 := Known.below hHeld.2.2.2.2.1 hb3
            refine hK.out _ _ ⟨(hb.at_ (by omega) (by omega)).trans pa0, (hb.at_ (by omega) (by omega)).trans pa1, (hb.at_ (by omega) (by omega)).trans pb0, (hb.at_ (by omega) (by omega)).trans pb1, hk3, KP6.out.bel hb (by omega) hpm, hb⟩ (fun hHeld => ?_)
            clear hK K
            refine norm_ (a' := ?_) ?_ ?_
            rotate_left
            · show Act.put _ (some 43) _ = _
              simp only [Act.put, List.setIfInBounds_toArray, List.set_cons_zero, List.set_cons_succ, i64_w, i32_w]
              rfl
            refine one_ (i := 5) (N := some 9) #[true, true, true, true, true, true, false] rfl rfl (by kernel_rfl) (by decide) (fun K hK => ?_)
            refine value_ (w1 := ?_) (v := ?_) (by rfl) rfl ?_ ?_
            rotate_left 2
            · go_simp
              constructor
              · rfl
              · rfl
            obtain ⟨V2, hV⟩ : ∃ V, V1.alloc (.cells #[.int .i64 0, .int .i64 0] 76) = V := ⟨_, rfl⟩
            rw [hV]
            have ha : V2.heap[V1.heap.size]? = some (.cells #[.int .i64 0, .int .i64 0] 76 (0, 0)) := by rw [← hV]; exact allocNew _ _ _ rfl
            have hcz := hHeld.2.2.2.2.2.2.size
            have hb : Bel w6.heap.size mb w6 V2 := by rw [← hV]; exact hHeld.2.2.2.2.2.2.alloc hHeld.2.2.2.2.2.2.size _
            have hk3 : Known V2 mb F := by rw [← hV]; exact Known.below hHeld.2.2.2.2.1 ((Below.refl _ _).alloc (Nat.le_refl _) _)
            have hml := Known.lt hHeld.2.2.2.2.1
            clear hV
            refine hK.out _ _ ⟨(hb.at_ (by omega) (by omega)).trans pa0, (hb.at_ (by omega) (by omega)).trans pa1, (hb.at_ (by omega) (by omega)).trans pb0, (hb.at_ (by omega) (by omega)).trans pb1, hk3, KP6.out.bel hb (by omega) hpm, hb⟩ (fun hHeld => ?_)
            clear hK K
            refine norm_ (a' := ?_) ?_ ?_
            rotate_left
            · show Act.put _ (some 9) _ = _
              simp only [Act.put, List.setIfInBounds_toArray, List.set_cons_zero, List.set_cons_succ, i64_w, i32_w]
              rfl
            exact norm_ (by simp only [putAll, Act.put, List.setIfInBounds_toArray, List.set_cons_zero, List.set_cons_succ]) (hCont (V1.heap.size) _ ⟨hHeld, ha, by omega⟩)
          · skip
            refine value_ (w1 := ?_) (v := ?_) (by rfl) rfl ?_ ?_
            rotate_left 2
            · go_simp
              constructor
              · rfl
              · rfl
            obtain ⟨V1, hV⟩ : ∃ V, V0.alloc (.cells #[.int .i64 0, .int .i64 0] 76) = V := ⟨_, rfl⟩
            rw [hV]
            have ha : V1.heap[V0.heap.size]? = some (.cells #[.int .i64 0, .int .i64 0] 76 (0, 0)) := by rw [← hV]; exact allocNew _ _ _ rfl
            have hcz := hHeld.2.2.2.2.2.2.size
            have hb : Bel w6.heap.size mb w6 V1 := by rw [← hV]; exact hHeld.2.2.2.2.2.2.alloc hHeld.2.2.2.2.2.2.size _
            have hk3 : Known V1 mb F := by rw [← hV]; exact Known.below hHeld.2.2.2.2.1 ((Below.refl _ _).alloc (Nat.le_refl _) _)
            have hml := Known.lt hHeld.2.2.2.2.1
            clear hV
            refine hK.out _ _ ⟨(hb.at_ (by omega) (by omega)).trans pa0, (hb.at_ (by omega) (by omega)).trans pa1, (hb.at_ (by omega) (by omega)).trans pb0, (hb.at_ (by omega) (by omega)).trans pb1, hk3, KP6.out.bel hb (by omega) hpm, hb⟩ (fun hHeld => ?_)
            clear hK K
            refine norm_ (a' := ?_) ?_ ?_
            rotate_left
            · show Act.put _ (some 9) _ = _
              simp only [Act.put, List.setIfInBounds_toArray, List.set_cons_zero, List.set_cons_succ, i64_w, i32_w]
              rfl
            refine one_ (i := 4) (N := some 43) #[true, true, true, true, true, true, false] rfl rfl (by kernel_rfl) (by decide) (fun K hK => ?_)
            refine goes_ Try.func41 (by kernel_rfl) rfl #[.agg #[.int .i64 b1, .int .i64 b2], .agg #[.int .i64 s.f2, .int .i64 0]] (by rfl) rfl rfl (by simp only [List.map_toArray, List.map_cons, List.map_nil]; rfl) ?_
            with_reducible refine (HA1.out _).mono ?_
            rintro e V2 ⟨rfl, hb3⟩
            refine ⟨_, rfl, ?_⟩
            have ha := (hb3.block _ (blk_lt' ha)).trans ha
            have hb := hHeld.2.2.2.2.2.2.trans (Bel.of_below (g := mb) (hb3.mono hHeld.2.2.2.2.2.2.size))
            have hk3 := Known.below hHeld.2.2.2.2.1 hb3
            refine hK.out _ _ ⟨(hb.at_ (by omega) (by omega)).trans pa0, (hb.at_ (by omega) (by omega)).trans pa1, (hb.at_ (by omega) (by omega)).trans pb0, (hb.at_ (by omega) (by omega)).trans pb1, hk3, KP6.out.bel hb (by omega) hpm, hb⟩ (fun hHeld => ?_)
            clear hK K
            refine norm_ (a' := ?_) ?_ ?_
            rotate_left
            · show Act.put _ (some 43) _ = _
              simp only [Act.put, List.setIfInBounds_toArray, List.set_cons_zero, List.set_cons_succ, i64_w, i32_w]
              rfl
            exact norm_ (by simp only [putAll, Act.put, List.setIfInBounds_toArray, List.set_cons_zero, List.set_cons_succ]) (hCont (V0.heap.size) _ ⟨hHeld, ha, by omega⟩)
        · skip
          refine value_ (w1 := ?_) (v := ?_) (by rfl) rfl ?_ ?_
          rotate_left 2
          · go_simp
            constructor
            · rfl
            · rfl
          obtain ⟨V0, hV⟩ : ∃ V, (w6.alloc (.cells #[.int .i64 0, .int .i64 0] 76)).drew = V := ⟨_, rfl⟩
          rw [hV]
          have ha : V0.heap[w6.heap.size]? = some (.cells #[.int .i64 0, .int .i64 0] 76 (0, 0)) := by rw [← hV]; exact allocNew _ _ _ rfl
          have hb : Bel w6.heap.size mb w6 V0 := by rw [← hV]; exact ((Bel.refl _ _ _).alloc (Nat.le_refl _) _).drew
          have hk3 : Known V0 mb F := by rw [← hV]; exact KK6.out.below ((Below.refl _ _).alloc (Nat.le_refl _) _).drew
          clear hV
          refine hK.out _ _ ⟨(hb.at_ (by omega) (by omega)).trans pa0, (hb.at_ (by omega) (by omega)).trans pa1, (hb.at_ (by omega) (by omega)).trans pb0, (hb.at_ (by omega) (by omega)).trans pb1, hk3, KP6.out.bel hb (by omega) hpm, hb⟩ (fun hHeld => ?_)
          clear hK K
          refine norm_ (a' := ?_) ?_ ?_
          rotate_left
          · show Act.put _ (some 9) _ = _
            simp only [Act.put, List.setIfInBounds_toArray, List.set_cons_zero, List.set_cons_succ, i64_w, i32_w]
            rfl
          refine one_ (i := 2) (N := some 41) #[true, true, true, true, false, true, false] rfl rfl (by kernel_rfl) (by decide) (fun K hK => ?_)
          refine goes_ Try.func36 (by kernel_rfl) rfl #[.pointer (some ⟨p, 0, none⟩), .agg #[.int .i64 τ1, .int .i64 ρ]] (by rfl) rfl rfl (by simp only [List.map_toArray, List.map_cons, List.map_nil]; rfl) ?_
          with_reducible refine (HB1.out _ hHeld.2.2.2.2.2.1 hHeld.2.2.2.2.1).mono ?_
          rintro e V1 ⟨rfl, hk3, hb3⟩
          refine ⟨_, rfl, ?_⟩
          have ha := (hb3.block _ (blk_lt' ha) (by omega)).trans ha
          have hb := hHeld.2.2.2.2.2.2.trans (hb3.mono hHeld.2.2.2.2.2.2.size)
          refine hK.out _ _ ⟨(hb.at_ (by omega) (by omega)).trans pa0, (hb.at_ (by omega) (by omega)).trans pa1, (hb.at_ (by omega) (by omega)).trans pb0, (hb.at_ (by omega) (by omega)).trans pb1, hk3, KP6.out.bel hb (by omega) hpm, hb⟩ (fun hHeld => ?_)
          clear hK K
          refine norm_ (a' := ?_) ?_ ?_
          rotate_left
          · show Act.put _ (some 41) _ = _
            simp only [Act.put, List.setIfInBounds_toArray, List.set_cons_zero, List.set_cons_succ, i64_w, i32_w]
            rfl
          refine one_ (i := 4) (N := some 43) #[true, true, true, true, true, true, false] rfl rfl (by kernel_rfl) (by decide) (fun K hK => ?_)
          refine goes_ Try.func41 (by kernel_rfl) rfl #[.agg #[.int .i64 b1, .int .i64 b2], .agg #[.int .i64 s.f2, .int .i64 0]] (by rfl) rfl rfl (by simp only [List.map_toArray, List.map_cons, List.map_nil]; rfl) ?_
          with_reducible refine (HA1.out _).mono ?_
          rintro e V2 ⟨rfl, hb3⟩
          refine ⟨_, rfl, ?_⟩
          have ha := (hb3.block _ (blk_lt' ha)).trans ha
          have hb := hHeld.2.2.2.2.2.2.trans (Bel.of_below (g := mb) (hb3.mono hHeld.2.2.2.2.2.2.size))
          have hk3 := Known.below hHeld.2.2.2.2.1 hb3
          refine hK.out _ _ ⟨(hb.at_ (by omega) (by omega)).trans pa0, (hb.at_ (by omega) (by omega)).trans pa1, (hb.at_ (by omega) (by omega)).trans pb0, (hb.at_ (by omega) (by omega)).trans pb1, hk3, KP6.out.bel hb (by omega) hpm, hb⟩ (fun hHeld => ?_)
          clear hK K
          refine norm_ (a' := ?_) ?_ ?_
          rotate_left
          · show Act.put _ (some 43) _ = _
            simp only [Act.put, List.setIfInBounds_toArray, List.set_cons_zero, List.set_cons_succ, i64_w, i32_w]
            rfl
          exact norm_ (by simp only [putAll, Act.put, List.setIfInBounds_toArray, List.set_cons_zero, List.set_cons_succ]) (hCont (w5.heap.size + 2) _ ⟨hHeld, by rw [← hz6]; exact ha, by omega⟩)
      rintro a9 w7 ⟨hHeld, ha, hsz⟩
      have e4 : w7.cell? ⟨a9, 1, none⟩ = some (.int .i64 0) := (blk_cell' ha 1).trans rfl
      have e0 : w7.cell? ⟨a9, 0, none⟩ = some (.int .i64 0) := (blk_cell' ha 0).trans rfl
      have e3 : ∀ i, w7.frozen? ⟨a9, i, none⟩ = false := fun i => blk_frozen' ha i
      refine norm_ (a' := ?_) ?_ ?_
      rotate_left
      · simp only [putAll, Act.put, List.setIfInBounds_toArray, List.set_cons_zero, List.set_cons_succ]
        rfl
      refine last_ (i := 6) (N := none) #[true, true, true, true, true, true, true] rfl rfl (by kernel_rfl) (by decide) (fun K hK => ?_)
      refine skip_ (w1 := ?_) (by rfl) rfl ?_ ?_
      rotate_left
      · go_simp
        rfl
      refine hK.out _ _ ?_
      clear hK K
      refine done_ (by kernel_rfl) ?_
      refine calm_normal ?_
      obtain ⟨w8, hw8⟩ : ∃ w8, (w7.setCell ⟨a9, 0, none⟩ (.int .i64 r1)).setCell ⟨a9, 1, none⟩ (.int .i64 r2) = w8 := ⟨_, rfl⟩
      have hb7 := hHeld.2.2.2.2.2.2
      have hz67 := hb7.size
      have hb8 : Bel w6.heap.size mb w6 w8 := by rw [← hw8]; exact (hb7.set (p := ⟨a9, 0, none⟩) (.inr (by simpa using hsz)) _).set (p := ⟨a9, 1, none⟩) (.inr (by simpa using hsz)) _
      have hz8 : w6.heap.size ≤ w8.heap.size := hb8.size
      have K98 : Hid (w8.heap[a9]? = some (.cells #[.int .i64 r1, .int .i64 r2] 76 (0, 0))) := by rw [← hw8]; exact two_put ha _ _
      have hmb6 : mb < w6.heap.size := KK6.out.lt
      have KK8 : Hid (Known w8 mb F) := by rw [← hw8]; exact hHeld.2.2.2.2.1.kept (row := some a9) ⟨rfl, rfl, rfl, by simp [World.setCell], fun i hi hne => (Below.heap_setCell _ _ _ _ (fun e => hne (by rw [e]))).trans (Below.heap_setCell _ _ _ _ (fun e => hne (by rw [e])))⟩ (fun e => by cases e; omega)
      have KP8 : Hid (PkAt w8 p s η Θ mb) := KP6.out.bel hb8 (by omega) hpm
      have K08 : Hid (w8.heap[w.heap.size]? = some (.cells #[.int .i64 τ, .int .i64 κ] 79 (0, 0))) := (hb8.block _ (by omega) (by omega)).trans K06.out
      have K18 : Hid (w8.heap[w.heap.size + 1]? = some (.cells #[.int .i64 0, .int .i64 0] 76 (0, 0))) := (hb8.block _ (by omega) (by omega)).trans K16.out
      have B8 : Bel w.heap.size mb w w8 := ((Bel.of_below hB04).trans (Bel.of_below (hB46.mono (by omega)))).trans (hb8.mono (by omega))
      have q80 : w8.cell? ⟨w.heap.size, 0, none⟩ = some (.int .i64 τ) := (blk_cell' K08.out 0).trans rfl
      have q81 : w8.cell? ⟨w.heap.size, 1, none⟩ = some (.int .i64 κ) := (blk_cell' K08.out 1).trans rfl
      have ha9 : w6.heap.size ≤ a9 := hsz
      rw [hw8]
      clear hw8 e4 e0 e3 ha hHeld hb7 q0 q1 pa0 pa1 pb0 pb1 hsz
      have HW := Lib.hid (wake_any p s hs hold T h0 h1 hT mb t k (by omega) hk w8 (by have := KP8.out; rw [← HH.out, ← HTH.out] at this; exact this))
      by_cases hr0 : refT s t k = 0
      · have hfin : F t κ = (r1, r2) := by
          rw [← HF.out, bestF, dif_neg hge, ← HK.out]
          dsimp only
          rw [if_pos hr0, HF.out, HRHO.out]
          exact HRB.out
        have HFIN := Lib.hid hfin
        have HWk : Hid (Calls Try.prog 42 #[.pointer (some ⟨p, 0, none⟩), .agg #[.int .i64 τ, .int .i64 κ]] w8 fun e w' => e = .returned (.tuple #[.agg #[.int .i64 τ, .int .i64 κ], .agg #[.int .i64 0, .int .i64 0], .bool false]) ∧ Below w8.heap.size w8 w') := by
          have h := HW.out
          unfold wakeR at h
          rw [if_pos hr0, HT.out, HK.out] at h
          exact h
        clear hfin hr0
        go_wp2_with (go_at_call 42; refine HWk.out.mono ?_; rintro e w9 ⟨rfl, hB9⟩)
        obtain ⟨wT, hwT⟩ : ∃ wT, (w9.alloc (.cells #[.int .i64 τ, .int .i64 κ] 79)).alloc (.cells #[.int .i64 0, .int .i64 0] 76) = wT := ⟨_, rfl⟩
        have hB8T : Below w8.heap.size w8 wT := by rw [← hwT]; exact (hB9.alloc hB9.size _).alloc (by simp; have := hB9.size; omega) _
        rw [hwT]
        clear hwT
        have KPT : Hid (PkAt wT p s η Θ mb) := KP8.out.below hB8T
        have KKT : Hid (Known wT mb F) := KK8.out.below hB8T
        have K0T := Lib.hid ((hB8T.block _ (blk_lt' K08.out)).trans K08.out)
        have K1T := Lib.hid ((hB8T.block _ (blk_lt' K18.out)).trans K18.out)
        have K9T := Lib.hid ((hB8T.block _ (blk_lt' K98.out)).trans K98.out)
        have BT : Bel w.heap.size mb w wT := B8.trans (Bel.of_below (hB8T.mono B8.size))
        have s7 : wT.cell? ⟨p, 7, none⟩ = some (.map (some mb)) := (blk_cell' KPT.out 7).trans rfl
        have s0 : wT.cell? ⟨w.heap.size, 0, none⟩ = some (.int .i64 τ) := (blk_cell' K0T.out 0).trans rfl
        have s1 : wT.cell? ⟨w.heap.size, 1, none⟩ = some (.int .i64 κ) := (blk_cell' K0T.out 1).trans rfl
        have s2 : wT.cell? ⟨a9, 0, none⟩ = some (.int .i64 r1) := (blk_cell' K9T.out 0).trans rfl
        have s3 : wT.cell? ⟨a9, 1, none⟩ = some (.int .i64 r2) := (blk_cell' K9T.out 1).trans rfl
        obtain ⟨wS, hrS, hkS, hgS⟩ := Known.store (w := wT.drew) (t := t) (k := k) KKT.out.drewn (by omega) hk
        rw [HT.out, HK.out, HFIN.out] at hrS
        try dsimp only at hrS
        refine wp_calm ?_
        refine start_ (n := 7) (S := fun w' => w'.cell? ⟨p, 7, none⟩ = some (.map (some mb)) ∧ w'.cell? ⟨w.heap.size, 0, none⟩ = some (.int .i64 τ) ∧ w'.cell? ⟨w.heap.size, 1, none⟩ = some (.int .i64 κ) ∧ w'.cell? ⟨a9, 0, none⟩ = some (.int .i64 r1) ∧ w'.cell? ⟨a9, 1, none⟩ = some (.int .i64 r2)) (ds := [6]) #[false, false, false, false, false, false, false] (by kernel_rfl) rfl rfl ⟨s7, s0, s1, s2, s3⟩ (fun hHeld => ?_)
        refine pure_ (i := 0) (N := some 61) (v := ?_) (a' := ?_) #[true, false, false, false, false, false, false] rfl rfl (by kernel_rfl) (fun _ _ _ h => h) (Or.inl ⟨by rfl, ?_⟩) ?_ ?_
        rotate_left
        · intro w'
          go_simp
          with_reducible rfl
        rotate_left
        · simp only [Act.put, List.setIfInBounds_toArray, List.set_cons_zero, List.set_cons_succ, i64_w, i32_w]
          rfl
        refine pure_ (i := 1) (N := some 62) (v := ?_) (a' := ?_) #[true, true, false, false, false, false, false] rfl rfl (by kernel_rfl) (fun _ _ _ h => h) (Or.inl ⟨by rfl, ?_⟩) ?_ ?_
        rotate_left
        · intro w'
          go_simp
          with_reducible rfl
        rotate_left
        · simp only [Act.put, List.setIfInBounds_toArray, List.set_cons_zero, List.set_cons_succ, i64_w, i32_w]
          rfl
        refine pure_ (i := 2) (N := some 63) (v := ?_) (a' := ?_) #[true, true, true, false, false, false, false] rfl rfl (by kernel_rfl) (fun _ _ _ h => h) (Or.inl ⟨by rfl, ?_⟩) ?_ ?_
        rotate_left
        · intro w'
          go_simp
          with_reducible rfl
        rotate_left
        · simp only [Act.put, List.setIfInBounds_toArray, List.set_cons_zero, List.set_cons_succ, i64_w, i32_w]
          rfl
        refine take_ (i := 3) (N := some 64) (v := ?_) (a' := ?_) #[true, true, true, true, false, false, false] rfl rfl (by kernel_rfl) (fun _ _ _ h => h) (Or.inl ⟨by rfl, ?_⟩) hHeld ?_ ?_
        rotate_left
        · rintro w' ⟨s0, s1, s2, s3, s4⟩
          go_simp
          with_reducible rfl
        rotate_left
        · simp only [Act.put, List.setIfInBounds_toArray, List.set_cons_zero, List.set_cons_succ, i64_w, i32_w]
          rfl
        refine take_ (i := 4) (N := some 65) (v := ?_) (a' := ?_) #[true, true, true, true, true, false, false] rfl rfl (by kernel_rfl) (fun _ _ _ h => h) (Or.inl ⟨by rfl, ?_⟩) hHeld ?_ ?_
        rotate_left
        · rintro w' ⟨s0, s1, s2, s3, s4⟩
          go_simp
          with_reducible rfl
        rotate_left
        · simp only [Act.put, List.setIfInBounds_toArray, List.set_cons_zero, List.set_cons_succ, i64_w, i32_w]
          rfl
        refine take_ (i := 5) (N := some 66) (v := ?_) (a' := ?_) #[true, true, true, true, true, true, false] rfl rfl (by kernel_rfl) (fun _ _ _ h => h) (Or.inl ⟨by rfl, ?_⟩) hHeld ?_ ?_
        rotate_left
        · rintro w' ⟨s0, s1, s2, s3, s4⟩
          go_simp
          with_reducible rfl
        rotate_left
        · simp only [Act.put, List.setIfInBounds_toArray, List.set_cons_zero, List.set_cons_succ, i64_w, i32_w]
          rfl
        refine last_ (i := 6) (N := none) #[true, true, true, true, true, true, true] rfl rfl (by kernel_rfl) (by decide) (fun K hK => ?_)
        refine skip_ (w1 := ?_) (by rfl) rfl ?_ ?_
        rotate_left
        · go_simp
          rfl
        refine hK.out _ _ ?_
        clear hK K
        refine done_ (by kernel_rfl) ?_
        refine calm_normal ?_
        have HKS := Lib.hid hkS
        have hgS' : wT.grownBy wS (some mb) := ⟨hgS.os, hgS.tape, hgS.output, hgS.size, hgS.block⟩
        have hza := blk_lt' K9T.out
        have hzb := blk_lt' K1T.out
        have k9 : wS.heap[a9]? = some (.cells #[.int .i64 r1, .int .i64 r2] 76 (0, 0)) := (hgS'.block _ hza (by simp; omega)).trans K9T.out
        have k1 : wS.heap[w.heap.size + 1]? = some (.cells #[.int .i64 0, .int .i64 0] 76 (0, 0)) := (hgS'.block _ hzb (by simp; omega)).trans K1T.out
        clear hrS s7 s0 s1 s2 s3 hkS
        have c4 : wS.cell? ⟨w.heap.size + 1, 1, none⟩ = some (.int .i64 0) := (blk_cell' k1 1).trans rfl
        have c0 : wS.cell? ⟨w.heap.size + 1, 0, none⟩ = some (.int .i64 0) := (blk_cell' k1 0).trans rfl
        have c3 : ∀ i, wS.frozen? ⟨w.heap.size + 1, i, none⟩ = false := fun i => blk_frozen' k1 i
        have d4 : wS.cell? ⟨a9, 1, none⟩ = some (.int .i64 r2) := (blk_cell' k9 1).trans rfl
        have d0 : wS.cell? ⟨a9, 0, none⟩ = some (.int .i64 r1) := (blk_cell' k9 0).trans rfl
        have d3 : ∀ i, wS.frozen? ⟨a9, i, none⟩ = false := fun i => blk_frozen' k9 i
        go_wp2
        refine bodyPost_ret (results_cell_row rfl _ _ (w.heap.size + 1) 76 #[.int .i64 r1, .int .i64 r2] (0, 0) _ rfl (two_put k1 _ _) Try.underlying76 rfl (by kernel_rfl)) rfl ?_
        refine ⟨by rw [HFIN.out], ?_, ?_⟩
        · exact HKS.out.kept (row := some (w.heap.size + 1)) ⟨rfl, rfl, rfl, by simp [World.setCell], fun i hi hne => (Below.heap_setCell _ _ _ _ (fun e => hne (by rw [e]))).trans (Below.heap_setCell _ _ _ _ (fun e => hne (by rw [e])))⟩ (fun e => by cases e; omega)
        · have hBS : Bel w.heap.size mb w wS := BT.trans (Bel.of_grown hgS' BT.size (fun k e => by cases e; exact .inl rfl))
          exact (hBS.set (p := ⟨w.heap.size + 1, 0, none⟩) (.inr (by simp)) _).set (p := ⟨w.heap.size + 1, 1, none⟩) (.inr (by simp)) _
      · have hin := wkTok_in hs t (show (0 : Int) ≤ k by omega) (show (k : Int) ≤ 20 by omega) hr0 (wkLen hold T t)
        obtain ⟨kn2, hkn2⟩ := Int.eq_ofNat_of_zero_le hin.1
        have hL : t + 1 + wkLen hold T t ≤ T := by unfold wkLen; omega
        obtain ⟨τ2, hτ2⟩ : ∃ τ2 : Int, ((t + 1 + wkLen hold T t : Nat) : Int) = τ2 := ⟨_, rfl⟩
        obtain ⟨ρ2, hρ2⟩ : ∃ ρ2 : Int, wkTok s t k (wkLen hold T t) = ρ2 := ⟨_, rfl⟩
        obtain ⟨ev2, hev2⟩ : ∃ ev2 : Int, wkEn s hold (wkLen hold T t) = ev2 := ⟨_, rfl⟩
        obtain ⟨⟨b3, b4⟩, hbv⟩ : ∃ x, F (t + 1 + wkLen hold T t) ρ2 = x := ⟨_, rfl⟩
        obtain ⟨y1, hy1⟩ : ∃ y1, wrap64 (b3 + ev2) = y1 := ⟨_, rfl⟩
        obtain ⟨y2, hy2⟩ : ∃ y2, wrap64 (b4 + 1) = y2 := ⟨_, rfl⟩
        obtain ⟨bt, hbt⟩ : ∃ bt, betO (y1, y2) (r1, r2) = bt := ⟨_, rfl⟩
        have hfin : F t κ = if bt then (y1, y2) else (r1, r2) := by
          rw [← HF.out, bestF, dif_neg hge, ← HK.out]
          dsimp only
          rw [if_neg hr0, HF.out, HRHO.out, HRB.out, hρ2, hev2, hbv]
          have : andO (b3, b4) (ev2, 1) = (y1, y2) := by unfold andO; rw [← hy1, ← hy2]
          rw [this, hbt]
        have HWk : Hid (Calls Try.prog 42 #[.pointer (some ⟨p, 0, none⟩), .agg #[.int .i64 τ, .int .i64 κ]] w8 fun e w' => e = .returned (.tuple #[.agg #[.int .i64 τ2, .int .i64 ρ2], .agg #[.int .i64 ev2, .int .i64 1], .bool true]) ∧ Below w8.heap.size w8 w') := by
          have h := HW.out
          unfold wakeR at h
          rw [if_neg hr0, hτ2, hρ2, hev2, HT.out, HK.out] at h
          exact h
        have HB2 : Hid (∀ W : World, PkAt W p s η Θ mb → Known W mb F → Calls Try.prog 36 #[.pointer (some ⟨p, 0, none⟩), .agg #[.int .i64 τ2, .int .i64 ρ2]] W fun e w' => e = .returned (.agg #[.int .i64 b3, .int .i64 b4]) ∧ Known w' mb F ∧ Bel W.heap.size mb W w') := fun W h1 h2 => by
          have h := HIH.out (t + 1 + wkLen hold T t) kn2 (by omega) hL (by omega) W h1 h2
          unfold BestPost at h
          rw [← hkn2, hτ2, hρ2, hbv] at h
          exact h
        have HA2 : Hid (∀ W : World, Calls Try.prog 41 #[.agg #[.int .i64 b3, .int .i64 b4], .agg #[.int .i64 ev2, .int .i64 1]] W fun e w' => e = .returned (.agg #[.int .i64 y1, .int .i64 y2]) ∧ Below W.heap.size W w') := fun W =>
          sleep_outcome_and.calls b3 b4 ev2 1 y1 y2 W (by unfold sleep_outcome_and.f; rw [hy1, hy2])
        have HBET : Hid (∀ W : World, Calls Try.prog 43 #[.agg #[.int .i64 y1, .int .i64 y2], .agg #[.int .i64 r1, .int .i64 r2]] W fun e w' => e = .returned (.bool bt) ∧ Below W.heap.size W w') := fun W =>
          sleep_outcome_better.calls 5 y1 y2 r1 r2 bt W ((betO_eq (y1, y2) (r1, r2)).trans (by rw [hbt]))
        have HFIN0 := Lib.hid hfin
        clear hfin hr0 hbt hy1 hy2 hbv hev2 hρ2 hτ2 hkn2 hin
        go_wp2_with (go_at_call 42; refine HWk.out.mono ?_; rintro e w9 ⟨rfl, hB9⟩)
        obtain ⟨wU, hwU⟩ : ∃ wU, (w9.alloc (.cells #[.int .i64 τ2, .int .i64 ρ2] 79)).alloc (.cells #[.int .i64 ev2, .int .i64 1] 76) = wU := ⟨_, rfl⟩
        have hB8U : Below w8.heap.size w8 wU := by rw [← hwU]; exact (hB9.alloc hB9.size _).alloc (by simp; have := hB9.size; omega) _
        have hzU : wU.heap.size = w9.heap.size + 2 := by rw [← hwU]; simp
        have hz9 := hB9.size
        rw [hwU]
        have ka : wU.heap[w9.heap.size]? = some (.cells #[.int .i64 τ2, .int .i64 ρ2] 79 (0, 0)) := by rw [← hwU]; exact allocOld (allocNew _ _ _ rfl) _
        have kb : wU.heap[w9.heap.size + 1]? = some (.cells #[.int .i64 ev2, .int .i64 1] 76 (0, 0)) := by rw [← hwU]; exact allocNew _ _ _ (by simp)
        have pc0 : wU.cell? ⟨w9.heap.size, 0, none⟩ = some (.int .i64 τ2) := (blk_cell' ka 0).trans rfl
        have pc1 : wU.cell? ⟨w9.heap.size, 1, none⟩ = some (.int .i64 ρ2) := (blk_cell' ka 1).trans rfl
        have pd0 : wU.cell? ⟨w9.heap.size + 1, 0, none⟩ = some (.int .i64 ev2) := (blk_cell' kb 0).trans rfl
        have pd1 : wU.cell? ⟨w9.heap.size + 1, 1, none⟩ = some (.int .i64 1) := (blk_cell' kb 1).trans rfl
        have KPU : Hid (PkAt wU p s η Θ mb) := KP8.out.below hB8U
        have KKU : Hid (Known wU mb F) := KK8.out.below hB8U
        have K0U := Lib.hid ((hB8U.block _ (blk_lt' K08.out)).trans K08.out)
        have K1U := Lib.hid ((hB8U.block _ (blk_lt' K18.out)).trans K18.out)
        have K9U := Lib.hid ((hB8U.block _ (blk_lt' K98.out)).trans K98.out)
        have h9lt := blk_lt' K98.out
        have BU : Bel w.heap.size mb w wU := B8.trans (Bel.of_below (hB8U.mono B8.size))
        clear hwU ka kb q80 q81
        refine wp_calm ?_
        refine start_ (n := 7) (S := fun w' => w'.cell? ⟨w9.heap.size, 0, none⟩ = some (.int .i64 τ2) ∧ w'.cell? ⟨w9.heap.size, 1, none⟩ = some (.int .i64 ρ2) ∧ w'.cell? ⟨w9.heap.size + 1, 0, none⟩ = some (.int .i64 ev2) ∧ w'.cell? ⟨w9.heap.size + 1, 1, none⟩ = some (.int .i64 1) ∧ Known w' mb F ∧ PkAt w' p s η Θ mb ∧ Bel wU.heap.size mb wU w') (ds := [6]) #[false, false, false, false, false, false, false] (by kernel_rfl) rfl rfl ⟨pc0, pc1, pd0, pd1, KKU.out.drewn, KPU.out.drew, (Bel.refl _ _ _).drew⟩ (fun hHeld => ?_)
        refine pure_ (i := 0) (N := some 52) (v := ?_) (a' := ?_) #[true, false, false, false, false, false, false] rfl rfl (by kernel_rfl) (fun _ _ _ h => h) (Or.inl ⟨by rfl, ?_⟩) ?_ ?_
        rotate_left
        · intro w'
          go_simp
          with_reducible rfl
        rotate_left
        · simp only [Act.put, List.setIfInBounds_toArray, List.set_cons_zero, List.set_cons_succ, i64_w, i32_w]
          rfl
        refine take_ (i := 1) (N := some 53) (v := ?_) (a' := ?_) #[true, true, false, false, false, false, false] rfl rfl (by kernel_rfl) (fun _ _ _ h => h) (Or.inl ⟨by rfl, ?_⟩) hHeld ?_ ?_
        rotate_left
        · rintro w' ⟨s0, s1, s2, s3, s4, s5, s6⟩
          go_simp
          with_reducible rfl
        rotate_left
        · simp only [Act.put, List.setIfInBounds_toArray, List.set_cons_zero, List.set_cons_succ, i64_w, i32_w]
          rfl
        refine take_ (i := 3) (N := some 55) (v := ?_) (a' := ?_) #[true, true, false, true, false, false, false] rfl rfl (by kernel_rfl) (fun _ _ _ h => h) (Or.inl ⟨by rfl, ?_⟩) hHeld ?_ ?_
        rotate_left
        · rintro w' ⟨s0, s1, s2, s3, s4, s5, s6⟩
          go_simp
          with_reducible rfl
        rotate_left
        · simp only [Act.put, List.setIfInBounds_toArray, List.set_cons_zero, List.set_cons_succ, i64_w, i32_w]
          rfl
        refine join_ (σ := Nat) 1 #[true, true, true, true, true, true, false] (fun a9 => [(54, .agg #[.int .i64 b3, .int .i64 b4]), (56, .agg #[.int .i64 y1, .int .i64 y2]), (13, .pointer (some ⟨a9, 0, none⟩))]) (fun a9 w' => (w'.cell? ⟨w9.heap.size, 0, none⟩ = some (.int .i64 τ2) ∧ w'.cell? ⟨w9.heap.size, 1, none⟩ = some (.int .i64 ρ2) ∧ w'.cell? ⟨w9.heap.size + 1, 0, none⟩ = some (.int .i64 ev2) ∧ w'.cell? ⟨w9.heap.size + 1, 1, none⟩ = some (.int .i64 1) ∧ Known w' mb F ∧ PkAt w' p s η Θ mb ∧ Bel wU.heap.size mb wU w') ∧ w'.heap[a9]? = some (.cells #[.int .i64 0, .int .i64 0] 76 (0, 0)) ∧ wU.heap.size ≤ a9) ?_ ?_
        rotate_left
        · intro hCont
          refine two_ (i := 2) (j := 5) (Ni := some 54) (Nj := some 13) #[true, true, true, true, false, false, false] #[true, true, false, true, false, true, false] rfl rfl rfl rfl (by kernel_rfl) (by decide) (by decide) (fun K hK => ?_) (fun K hK => ?_)
          · skip
            refine goes_ Try.func36 (by kernel_rfl) rfl #[.pointer (some ⟨p, 0, none⟩), .agg #[.int .i64 τ2, .int .i64 ρ2]] (by rfl) rfl rfl (by simp only [List.map_toArray, List.map_cons, List.map_nil]; rfl) ?_
            with_reducible refine (HB2.out _ hHeld.2.2.2.2.2.1 hHeld.2.2.2.2.1).mono ?_
            rintro e V0 ⟨rfl, hk3, hb3⟩
            refine ⟨_, rfl, ?_⟩
            have hb := hHeld.2.2.2.2.2.2.trans (hb3.mono hHeld.2.2.2.2.2.2.size)
            refine hK.out _ _ ⟨(hb.at_ (by omega) (by omega)).trans pc0, (hb.at_ (by omega) (by omega)).trans pc1, (hb.at_ (by omega) (by omega)).trans pd0, (hb.at_ (by omega) (by omega)).trans pd1, hk3, KPU.out.bel hb (by omega) hpm, hb⟩ (fun hHeld => ?_)
            clear hK K
            refine norm_ (a' := ?_) ?_ ?_
            rotate_left
            · show Act.put _ (some 54) _ = _
              simp only [Act.put, List.setIfInBounds_toArray, List.set_cons_zero, List.set_cons_succ, i64_w, i32_w]
              rfl
            refine two_ (i := 4) (j := 5) (Ni := some 56) (Nj := some 13) #[true, true, true, true, true, false, false] #[true, true, true, true, false, true, false] rfl rfl rfl rfl (by kernel_rfl) (by decide) (by decide) (fun K hK => ?_) (fun K hK => ?_)
            · skip
              refine goes_ Try.func41 (by kernel_rfl) rfl #[.agg #[.int .i64 b3, .int .i64 b4], .agg #[.int .i64 ev2, .int .i64 1]] (by rfl) rfl rfl (by simp only [List.map_toArray, List.map_cons, List.map_nil]; rfl) ?_
              with_reducible refine (HA2.out _).mono ?_
              rintro e V1 ⟨rfl, hb3⟩
              refine ⟨_, rfl, ?_⟩
              have hb := hHeld.2.2.2.2.2.2.trans (Bel.of_below (g := mb) (hb3.mono hHeld.2.2.2.2.2.2.size))
              have hk3 := Known.below hHeld.2.2.2.2.1 hb3
              refine hK.out _ _ ⟨(hb.at_ (by omega) (by omega)).trans pc0, (hb.at_ (by omega) (by omega)).trans pc1, (hb.at_ (by omega) (by omega)).trans pd0, (hb.at_ (by omega) (by omega)).trans pd1, hk3, KPU.out.bel hb (by omega) hpm, hb⟩ (fun hHeld => ?_)
              clear hK K
              refine norm_ (a' := ?_) ?_ ?_
              rotate_left
              · show Act.put _ (some 56) _ = _
                simp only [Act.put, List.setIfInBounds_toArray, List.set_cons_zero, List.set_cons_succ, i64_w, i32_w]
                rfl
              refine one_ (i := 5) (N := some 13) #[true, true, true, true, true, true, false] rfl rfl (by kernel_rfl) (by decide) (fun K hK => ?_)
              refine value_ (w1 := ?_) (v := ?_) (by rfl) rfl ?_ ?_
              rotate_left 2
              · go_simp
                constructor
                · rfl
                · rfl
              obtain ⟨V2, hV⟩ : ∃ V, V1.alloc (.cells #[.int .i64 0, .int .i64 0] 76) = V := ⟨_, rfl⟩
              rw [hV]
              have ha : V2.heap[V1.heap.size]? = some (.cells #[.int .i64 0, .int .i64 0] 76 (0, 0)) := by rw [← hV]; exact allocNew _ _ _ rfl
              have hcz := hHeld.2.2.2.2.2.2.size
              have hb : Bel wU.heap.size mb wU V2 := by rw [← hV]; exact hHeld.2.2.2.2.2.2.alloc hHeld.2.2.2.2.2.2.size _
              have hk3 : Known V2 mb F := by rw [← hV]; exact Known.below hHeld.2.2.2.2.1 ((Below.refl _ _).alloc (Nat.le_refl _) _)
              have hml := Known.lt hHeld.2.2.2.2.1
              clear hV
              refine hK.out _ _ ⟨(hb.at_ (by omega) (by omega)).trans pc0, (hb.at_ (by omega) (by omega)).trans pc1, (hb.at_ (by omega) (by omega)).trans pd0, (hb.at_ (by omega) (by omega)).trans pd1, hk3, KPU.out.bel hb (by omega) hpm, hb⟩ (fun hHeld => ?_)
              clear hK K
              refine norm_ (a' := ?_) ?_ ?_
              rotate_left
              · show Act.put _ (some 13) _ = _
                simp only [Act.put, List.setIfInBounds_toArray, List.set_cons_zero, List.set_cons_succ, i64_w, i32_w]
                rfl
              exact norm_ (by simp only [putAll, Act.put, List.setIfInBounds_toArray, List.set_cons_zero, List.set_cons_succ]) (hCont (V1.heap.size) _ ⟨hHeld, ha, by omega⟩)
            · skip
              refine value_ (w1 := ?_) (v := ?_) (by rfl) rfl ?_ ?_
              rotate_left 2
              · go_simp
                constructor
                · rfl
                · rfl
              obtain ⟨V1, hV⟩ : ∃ V, V0.alloc (.cells #[.int .i64 0, .int .i64 0] 76) = V := ⟨_, rfl⟩
              rw [hV]
              have ha : V1.heap[V0.heap.size]? = some (.cells #[.int .i64 0, .int .i64 0] 76 (0, 0)) := by rw [← hV]; exact allocNew _ _ _ rfl
              have hcz := hHeld.2.2.2.2.2.2.size
              have hb : Bel wU.heap.size mb wU V1 := by rw [← hV]; exact hHeld.2.2.2.2.2.2.alloc hHeld.2.2.2.2.2.2.size _
              have hk3 : Known V1 mb F := by rw [← hV]; exact Known.below hHeld.2.2.2.2.1 ((Below.refl _ _).alloc (Nat.le_refl _) _)
              have hml := Known.lt hHeld.2.2.2.2.1
              clear hV
              refine hK.out _ _ ⟨(hb.at_ (by omega) (by omega)).trans pc0, (hb.at_ (by omega) (by omega)).trans pc1, (hb.at_ (by omega) (by omega)).trans pd0, (hb.at_ (by omega) (by omega)).trans pd1, hk3, KPU.out.bel hb (by omega) hpm, hb⟩ (fun hHeld => ?_)
              clear hK K
              refine norm_ (a' := ?_) ?_ ?_
              rotate_left
              · show Act.put _ (some 13) _ = _
                simp only [Act.put, List.setIfInBounds_toArray, List.set_cons_zero, List.set_cons_succ, i64_w, i32_w]
                rfl
              refine one_ (i := 4) (N := some 56) #[true, true, true, true, true, true, false] rfl rfl (by kernel_rfl) (by decide) (fun K hK => ?_)
              refine goes_ Try.func41 (by kernel_rfl) rfl #[.agg #[.int .i64 b3, .int .i64 b4], .agg #[.int .i64 ev2, .int .i64 1]] (by rfl) rfl rfl (by simp only [List.map_toArray, List.map_cons, List.map_nil]; rfl) ?_
              with_reducible refine (HA2.out _).mono ?_
              rintro e V2 ⟨rfl, hb3⟩
              refine ⟨_, rfl, ?_⟩
              have ha := (hb3.block _ (blk_lt' ha)).trans ha
              have hb := hHeld.2.2.2.2.2.2.trans (Bel.of_below (g := mb) (hb3.mono hHeld.2.2.2.2.2.2.size))
              have hk3 := Known.below hHeld.2.2.2.2.1 hb3
              refine hK.out _ _ ⟨(hb.at_ (by omega) (by omega)).trans pc0, (hb.at_ (by omega) (by omega)).trans pc1, (hb.at_ (by omega) (by omega)).trans pd0, (hb.at_ (by omega) (by omega)).trans pd1, hk3, KPU.out.bel hb (by omega) hpm, hb⟩ (fun hHeld => ?_)
              clear hK K
              refine norm_ (a' := ?_) ?_ ?_
              rotate_left
              · show Act.put _ (some 56) _ = _
                simp only [Act.put, List.setIfInBounds_toArray, List.set_cons_zero, List.set_cons_succ, i64_w, i32_w]
                rfl
              exact norm_ (by simp only [putAll, Act.put, List.setIfInBounds_toArray, List.set_cons_zero, List.set_cons_succ]) (hCont (V0.heap.size) _ ⟨hHeld, ha, by omega⟩)
          · skip
            refine value_ (w1 := ?_) (v := ?_) (by rfl) rfl ?_ ?_
            rotate_left 2
            · go_simp
              constructor
              · rfl
              · rfl
            obtain ⟨V0, hV⟩ : ∃ V, (wU.alloc (.cells #[.int .i64 0, .int .i64 0] 76)).drew = V := ⟨_, rfl⟩
            rw [hV]
            have ha : V0.heap[wU.heap.size]? = some (.cells #[.int .i64 0, .int .i64 0] 76 (0, 0)) := by rw [← hV]; exact allocNew _ _ _ rfl
            have hb : Bel wU.heap.size mb wU V0 := by rw [← hV]; exact ((Bel.refl _ _ _).alloc (Nat.le_refl _) _).drew
            have hk3 : Known V0 mb F := by rw [← hV]; exact KKU.out.below ((Below.refl _ _).alloc (Nat.le_refl _) _).drew
            clear hV
            refine hK.out _ _ ⟨(hb.at_ (by omega) (by omega)).trans pc0, (hb.at_ (by omega) (by omega)).trans pc1, (hb.at_ (by omega) (by omega)).trans pd0, (hb.at_ (by omega) (by omega)).trans pd1, hk3, KPU.out.bel hb (by omega) hpm, hb⟩ (fun hHeld => ?_)
            clear hK K
            refine norm_ (a' := ?_) ?_ ?_
            rotate_left
            · show Act.put _ (some 13) _ = _
              simp only [Act.put, List.setIfInBounds_toArray, List.set_cons_zero, List.set_cons_succ, i64_w, i32_w]
              rfl
            refine one_ (i := 2) (N := some 54) #[true, true, true, true, false, true, false] rfl rfl (by kernel_rfl) (by decide) (fun K hK => ?_)
            refine goes_ Try.func36 (by kernel_rfl) rfl #[.pointer (some ⟨p, 0, none⟩), .agg #[.int .i64 τ2, .int .i64 ρ2]] (by rfl) rfl rfl (by simp only [List.map_toArray, List.map_cons, List.map_nil]; rfl) ?_
            with_reducible refine (HB2.out _ hHeld.2.2.2.2.2.1 hHeld.2.2.2.2.1).mono ?_
            rintro e V1 ⟨rfl, hk3, hb3⟩
            refine ⟨_, rfl, ?_⟩
            have ha := (hb3.block _ (blk_lt' ha) (by omega)).trans ha
            have hb := hHeld.2.2.2.2.2.2.trans (hb3.mono hHeld.2.2.2.2.2.2.size)
            refine hK.out _ _ ⟨(hb.at_ (by omega) (by omega)).trans pc0, (hb.at_ (by omega) (by omega)).trans pc1, (hb.at_ (by omega) (by omega)).trans pd0, (hb.at_ (by omega) (by omega)).trans pd1, hk3, KPU.out.bel hb (by omega) hpm, hb⟩ (fun hHeld => ?_)
            clear hK K
            refine norm_ (a' := ?_) ?_ ?_
            rotate_left
            · show Act.put _ (some 54) _ = _
              simp only [Act.put, List.setIfInBounds_toArray, List.set_cons_zero, List.set_cons_succ, i64_w, i32_w]
              rfl
            refine one_ (i := 4) (N := some 56) #[true, true, true, true, true, true, false] rfl rfl (by kernel_rfl) (by decide) (fun K hK => ?_)
            refine goes_ Try.func41 (by kernel_rfl) rfl #[.agg #[.int .i64 b3, .int .i64 b4], .agg #[.int .i64 ev2, .int .i64 1]] (by rfl) rfl rfl (by simp only [List.map_toArray, List.map_cons, List.map_nil]; rfl) ?_
            with_reducible refine (HA2.out _).mono ?_
            rintro e V2 ⟨rfl, hb3⟩
            refine ⟨_, rfl, ?_⟩
            have ha := (hb3.block _ (blk_lt' ha)).trans ha
            have hb := hHeld.2.2.2.2.2.2.trans (Bel.of_below (g := mb) (hb3.mono hHeld.2.2.2.2.2.2.size))
            have hk3 := Known.below hHeld.2.2.2.2.1 hb3
            refine hK.out _ _ ⟨(hb.at_ (by omega) (by omega)).trans pc0, (hb.at_ (by omega) (by omega)).trans pc1, (hb.at_ (by omega) (by omega)).trans pd0, (hb.at_ (by omega) (by omega)).trans pd1, hk3, KPU.out.bel hb (by omega) hpm, hb⟩ (fun hHeld => ?_)
            clear hK K
            refine norm_ (a' := ?_) ?_ ?_
            rotate_left
            · show Act.put _ (some 56) _ = _
              simp only [Act.put, List.setIfInBounds_toArray, List.set_cons_zero, List.set_cons_succ, i64_w, i32_w]
              rfl
            exact norm_ (by simp only [putAll, Act.put, List.setIfInBounds_toArray, List.set_cons_zero, List.set_cons_succ]) (hCont (w9.heap.size + 2) _ ⟨hHeld, by rw [← hzU]; exact ha, by omega⟩)
        rintro a13 w11 ⟨hHeld, ha, hsz⟩
        have e4 : w11.cell? ⟨a13, 1, none⟩ = some (.int .i64 0) := (blk_cell' ha 1).trans rfl
        have e0 : w11.cell? ⟨a13, 0, none⟩ = some (.int .i64 0) := (blk_cell' ha 0).trans rfl
        have e3 : ∀ i, w11.frozen? ⟨a13, i, none⟩ = false := fun i => blk_frozen' ha i
        refine norm_ (a' := ?_) ?_ ?_
        rotate_left
        · simp only [putAll, Act.put, List.setIfInBounds_toArray, List.set_cons_zero, List.set_cons_succ]
          rfl
        refine last_ (i := 6) (N := none) #[true, true, true, true, true, true, true] rfl rfl (by kernel_rfl) (by decide) (fun K hK => ?_)
        refine skip_ (w1 := ?_) (by rfl) rfl ?_ ?_
        rotate_left
        · go_simp
          rfl
        refine hK.out _ _ ?_
        clear hK K
        refine done_ (by kernel_rfl) ?_
        refine calm_normal ?_
        obtain ⟨w12, hw12⟩ : ∃ w12, (w11.setCell ⟨a13, 0, none⟩ (.int .i64 y1)).setCell ⟨a13, 1, none⟩ (.int .i64 y2) = w12 := ⟨_, rfl⟩
        have hb11 := hHeld.2.2.2.2.2.2
        have hz11 := hb11.size
        have hb12 : Bel wU.heap.size mb wU w12 := by rw [← hw12]; exact (hb11.set (p := ⟨a13, 0, none⟩) (.inr (by simpa using hsz)) _).set (p := ⟨a13, 1, none⟩) (.inr (by simpa using hsz)) _
        have K3V : Hid (w12.heap[a13]? = some (.cells #[.int .i64 y1, .int .i64 y2] 76 (0, 0))) := by rw [← hw12]; exact two_put ha _ _
        have hmbU : mb < wU.heap.size := KKU.out.lt
        have KKV : Hid (Known w12 mb F) := by rw [← hw12]; exact hHeld.2.2.2.2.1.kept (row := some a13) ⟨rfl, rfl, rfl, by simp [World.setCell], fun i hi hne => (Below.heap_setCell _ _ _ _ (fun e => hne (by rw [e]))).trans (Below.heap_setCell _ _ _ _ (fun e => hne (by rw [e])))⟩ (fun e => by cases e; omega)
        have KPV : Hid (PkAt w12 p s η Θ mb) := KPU.out.bel hb12 (by omega) hpm
        have K0V := Lib.hid ((hb12.block _ (blk_lt' K0U.out) (by omega)).trans K0U.out)
        have K1V := Lib.hid ((hb12.block _ (blk_lt' K1U.out) (by omega)).trans K1U.out)
        have K9V := Lib.hid ((hb12.block _ (blk_lt' K9U.out) (by omega)).trans K9U.out)
        have BV : Bel w.heap.size mb w w12 := BU.trans (hb12.mono BU.size)
        have v0 : w12.cell? ⟨a13, 0, none⟩ = some (.int .i64 y1) := (blk_cell' K3V.out 0).trans rfl
        have v1 : w12.cell? ⟨a13, 1, none⟩ = some (.int .i64 y2) := (blk_cell' K3V.out 1).trans rfl
        have v2 : w12.cell? ⟨a9, 0, none⟩ = some (.int .i64 r1) := (blk_cell' K9V.out 0).trans rfl
        have v3 : w12.cell? ⟨a9, 1, none⟩ = some (.int .i64 r2) := (blk_cell' K9V.out 1).trans rfl
        have ha13 : wU.heap.size ≤ a13 := hsz
        have hne : a13 ≠ a9 := by omega
        rw [hw12]
        clear hw12 e4 e0 e3 ha hHeld hb11 pc0 pc1 pd0 pd1 hsz
        cases bt
        · have HFIN : Hid (F t κ = (r1, r2)) := HFIN0.out
          go_wp2_with (go_at_call 43; refine (HBET.out _).mono ?_; rintro e wT ⟨rfl, hBT⟩)
          have KPT : Hid (PkAt wT p s η Θ mb) := KPV.out.below hBT
          have KKT : Hid (Known wT mb F) := KKV.out.below hBT
          have K0T := Lib.hid ((hBT.block _ (blk_lt' K0V.out)).trans K0V.out)
          have K1T := Lib.hid ((hBT.block _ (blk_lt' K1V.out)).trans K1V.out)
          have K9T := Lib.hid ((hBT.block _ (blk_lt' K9V.out)).trans K9V.out)
          have BT : Bel w.heap.size mb w wT := BV.trans (Bel.of_below (hBT.mono BV.size))
          clear v0 v1 v2 v3
          have s7 : wT.cell? ⟨p, 7, none⟩ = some (.map (some mb)) := (blk_cell' KPT.out 7).trans rfl
          have s0 : wT.cell? ⟨w.heap.size, 0, none⟩ = some (.int .i64 τ) := (blk_cell' K0T.out 0).trans rfl
          have s1 : wT.cell? ⟨w.heap.size, 1, none⟩ = some (.int .i64 κ) := (blk_cell' K0T.out 1).trans rfl
          have s2 : wT.cell? ⟨a9, 0, none⟩ = some (.int .i64 r1) := (blk_cell' K9T.out 0).trans rfl
          have s3 : wT.cell? ⟨a9, 1, none⟩ = some (.int .i64 r2) := (blk_cell' K9T.out 1).trans rfl
          obtain ⟨wS, hrS, hkS, hgS⟩ := Known.store (w := wT.drew) (t := t) (k := k) KKT.out.drewn (by omega) hk
          rw [HT.out, HK.out, HFIN.out] at hrS
          try dsimp only at hrS
          refine wp_calm ?_
          refine start_ (n := 7) (S := fun w' => w'.cell? ⟨p, 7, none⟩ = some (.map (some mb)) ∧ w'.cell? ⟨w.heap.size, 0, none⟩ = some (.int .i64 τ) ∧ w'.cell? ⟨w.heap.size, 1, none⟩ = some (.int .i64 κ) ∧ w'.cell? ⟨a9, 0, none⟩ = some (.int .i64 r1) ∧ w'.cell? ⟨a9, 1, none⟩ = some (.int .i64 r2)) (ds := [6]) #[false, false, false, false, false, false, false] (by kernel_rfl) rfl rfl ⟨s7, s0, s1, s2, s3⟩ (fun hHeld => ?_)
          refine pure_ (i := 0) (N := some 61) (v := ?_) (a' := ?_) #[true, false, false, false, false, false, false] rfl rfl (by kernel_rfl) (fun _ _ _ h => h) (Or.inl ⟨by rfl, ?_⟩) ?_ ?_
          rotate_left
          · intro w'
            go_simp
            with_reducible rfl
          rotate_left
          · simp only [Act.put, List.setIfInBounds_toArray, List.set_cons_zero, List.set_cons_succ, i64_w, i32_w]
            rfl
          refine pure_ (i := 1) (N := some 62) (v := ?_) (a' := ?_) #[true, true, false, false, false, false, false] rfl rfl (by kernel_rfl) (fun _ _ _ h => h) (Or.inl ⟨by rfl, ?_⟩) ?_ ?_
          rotate_left
          · intro w'
            go_simp
            with_reducible rfl
          rotate_left
          · simp only [Act.put, List.setIfInBounds_toArray, List.set_cons_zero, List.set_cons_succ, i64_w, i32_w]
            rfl
          refine pure_ (i := 2) (N := some 63) (v := ?_) (a' := ?_) #[true, true, true, false, false, false, false] rfl rfl (by kernel_rfl) (fun _ _ _ h => h) (Or.inl ⟨by rfl, ?_⟩) ?_ ?_
          rotate_left
          · intro w'
            go_simp
            with_reducible rfl
          rotate_left
          · simp only [Act.put, List.setIfInBounds_toArray, List.set_cons_zero, List.set_cons_succ, i64_w, i32_w]
            rfl
          refine take_ (i := 3) (N := some 64) (v := ?_) (a' := ?_) #[true, true, true, true, false, false, false] rfl rfl (by kernel_rfl) (fun _ _ _ h => h) (Or.inl ⟨by rfl, ?_⟩) hHeld ?_ ?_
          rotate_left
          · rintro w' ⟨s0, s1, s2, s3, s4⟩
            go_simp
            with_reducible rfl
          rotate_left
          · simp only [Act.put, List.setIfInBounds_toArray, List.set_cons_zero, List.set_cons_succ, i64_w, i32_w]
            rfl
          refine take_ (i := 4) (N := some 65) (v := ?_) (a' := ?_) #[true, true, true, true, true, false, false] rfl rfl (by kernel_rfl) (fun _ _ _ h => h) (Or.inl ⟨by rfl, ?_⟩) hHeld ?_ ?_
          rotate_left
          · rintro w' ⟨s0, s1, s2, s3, s4⟩
            go_simp
            with_reducible rfl
          rotate_left
          · simp only [Act.put, List.setIfInBounds_toArray, List.set_cons_zero, List.set_cons_succ, i64_w, i32_w]
            rfl
          refine take_ (i := 5) (N := some 66) (v := ?_) (a' := ?_) #[true, true, true, true, true, true, false] rfl rfl (by kernel_rfl) (fun _ _ _ h => h) (Or.inl ⟨by rfl, ?_⟩) hHeld ?_ ?_
          rotate_left
          · rintro w' ⟨s0, s1, s2, s3, s4⟩
            go_simp
            with_reducible rfl
          rotate_left
          · simp only [Act.put, List.setIfInBounds_toArray, List.set_cons_zero, List.set_cons_succ, i64_w, i32_w]
            rfl
          refine last_ (i := 6) (N := none) #[true, true, true, true, true, true, true] rfl rfl (by kernel_rfl) (by decide) (fun K hK => ?_)
          refine skip_ (w1 := ?_) (by rfl) rfl ?_ ?_
          rotate_left
          · go_simp
            rfl
          refine hK.out _ _ ?_
          clear hK K
          refine done_ (by kernel_rfl) ?_
          refine calm_normal ?_
          have HKS := Lib.hid hkS
          have hgS' : wT.grownBy wS (some mb) := ⟨hgS.os, hgS.tape, hgS.output, hgS.size, hgS.block⟩
          have hza := blk_lt' K9T.out
          have hzb := blk_lt' K1T.out
          have k9 : wS.heap[a9]? = some (.cells #[.int .i64 r1, .int .i64 r2] 76 (0, 0)) := (hgS'.block _ hza (by simp; omega)).trans K9T.out
          have k1 : wS.heap[w.heap.size + 1]? = some (.cells #[.int .i64 0, .int .i64 0] 76 (0, 0)) := (hgS'.block _ hzb (by simp; omega)).trans K1T.out
          clear hrS s7 s0 s1 s2 s3 hkS
          have c4 : wS.cell? ⟨w.heap.size + 1, 1, none⟩ = some (.int .i64 0) := (blk_cell' k1 1).trans rfl
          have c0 : wS.cell? ⟨w.heap.size + 1, 0, none⟩ = some (.int .i64 0) := (blk_cell' k1 0).trans rfl
          have c3 : ∀ i, wS.frozen? ⟨w.heap.size + 1, i, none⟩ = false := fun i => blk_frozen' k1 i
          have d4 : wS.cell? ⟨a9, 1, none⟩ = some (.int .i64 r2) := (blk_cell' k9 1).trans rfl
          have d0 : wS.cell? ⟨a9, 0, none⟩ = some (.int .i64 r1) := (blk_cell' k9 0).trans rfl
          have d3 : ∀ i, wS.frozen? ⟨a9, i, none⟩ = false := fun i => blk_frozen' k9 i
          go_wp2
          refine bodyPost_ret (results_cell_row rfl _ _ (w.heap.size + 1) 76 #[.int .i64 r1, .int .i64 r2] (0, 0) _ rfl (two_put k1 _ _) Try.underlying76 rfl (by kernel_rfl)) rfl ?_
          refine ⟨by rw [HFIN.out], ?_, ?_⟩
          · exact HKS.out.kept (row := some (w.heap.size + 1)) ⟨rfl, rfl, rfl, by simp [World.setCell], fun i hi hne => (Below.heap_setCell _ _ _ _ (fun e => hne (by rw [e]))).trans (Below.heap_setCell _ _ _ _ (fun e => hne (by rw [e])))⟩ (fun e => by cases e; omega)
          · have hBS : Bel w.heap.size mb w wS := BT.trans (Bel.of_grown hgS' BT.size (fun k e => by cases e; exact .inl rfl))
            exact (hBS.set (p := ⟨w.heap.size + 1, 0, none⟩) (.inr (by simp)) _).set (p := ⟨w.heap.size + 1, 1, none⟩) (.inr (by simp)) _
        · have HFIN : Hid (F t κ = (y1, y2)) := HFIN0.out
          go_wp2_with (go_at_call 43; refine (HBET.out _).mono ?_; rintro e w13 ⟨rfl, hB13⟩; have m9 : w13.heap[a9]? = some (.cells #[.int .i64 r1, .int .i64 r2] 76 (0, 0)) := (hB13.block _ (blk_lt' K9V.out)).trans K9V.out; have m13 : w13.heap[a13]? = some (.cells #[.int .i64 y1, .int .i64 y2] 76 (0, 0)) := (hB13.block _ (blk_lt' K3V.out)).trans K3V.out; have M9 := Lib.hid m9; have v0 : w13.cell? ⟨a13, 0, none⟩ = some (.int .i64 y1) := (blk_cell' m13 0).trans rfl; have v1 : w13.cell? ⟨a13, 1, none⟩ = some (.int .i64 y2) := (blk_cell' m13 1).trans rfl; have v2 : w13.cell? ⟨a9, 0, none⟩ = some (.int .i64 r1) := (blk_cell' m9 0).trans rfl; have v3 : w13.cell? ⟨a9, 1, none⟩ = some (.int .i64 r2) := (blk_cell' m9 1).trans rfl; have v4 : ∀ i, w13.frozen? ⟨a9, i, none⟩ = false := fun i => blk_frozen' m9 i; clear m9 m13)
          obtain ⟨wT, hwT⟩ : ∃ wT, (w13.setCell ⟨a9, 0, none⟩ (.int .i64 y1)).setCell ⟨a9, 1, none⟩ (.int .i64 y2) = wT := ⟨_, rfl⟩
          have hbT : Bel w8.heap.size a9 w13 wT := by rw [← hwT]; exact ((Bel.refl _ _ _).set (p := ⟨a9, 0, none⟩) (.inl rfl) _).set (p := ⟨a9, 1, none⟩) (.inl rfl) _
          have KP13 : Hid (PkAt w13 p s η Θ mb) := KPV.out.below hB13
          have K013 := Lib.hid ((hB13.block _ (blk_lt' K0V.out)).trans K0V.out)
          have K113 := Lib.hid ((hB13.block _ (blk_lt' K1V.out)).trans K1V.out)
          have KPT : Hid (PkAt wT p s η Θ mb) := (hbT.block _ (by omega) (by omega)).trans KP13.out
          have KKT : Hid (Known wT mb F) := by rw [← hwT]; exact (KKV.out.below hB13).kept (row := some a9) ⟨rfl, rfl, rfl, by simp [World.setCell], fun i hi hne => (Below.heap_setCell _ _ _ _ (fun e => hne (by rw [e]))).trans (Below.heap_setCell _ _ _ _ (fun e => hne (by rw [e])))⟩ (fun e => by cases e; omega)
          have K0T := Lib.hid ((hbT.block _ (by omega) (by omega)).trans K013.out)
          have K1T := Lib.hid ((hbT.block _ (by omega) (by omega)).trans K113.out)
          have K9T : Hid (wT.heap[a9]? = some (.cells #[.int .i64 y1, .int .i64 y2] 76 (0, 0))) := by rw [← hwT]; exact two_put M9.out _ _
          have BT : Bel w.heap.size mb w wT := by rw [← hwT]; exact ((BV.trans (Bel.of_below (hB13.mono BV.size))).set (p := ⟨a9, 0, none⟩) (.inr (by show w.heap.size ≤ a9; omega)) _).set (p := ⟨a9, 1, none⟩) (.inr (by show w.heap.size ≤ a9; omega)) _
          rw [hwT]
          clear hwT v0 v1 v2 v3 v4
          have s7 : wT.cell? ⟨p, 7, none⟩ = some (.map (some mb)) := (blk_cell' KPT.out 7).trans rfl
          have s0 : wT.cell? ⟨w.heap.size, 0, none⟩ = some (.int .i64 τ) := (blk_cell' K0T.out 0).trans rfl
          have s1 : wT.cell? ⟨w.heap.size, 1, none⟩ = some (.int .i64 κ) := (blk_cell' K0T.out 1).trans rfl
          have s2 : wT.cell? ⟨a9, 0, none⟩ = some (.int .i64 y1) := (blk_cell' K9T.out 0).trans rfl
          have s3 : wT.cell? ⟨a9, 1, none⟩ = some (.int .i64 y2) := (blk_cell' K9T.out 1).trans rfl
          obtain ⟨wS, hrS, hkS, hgS⟩ := Known.store (w := wT.drew) (t := t) (k := k) KKT.out.drewn (by omega) hk
          rw [HT.out, HK.out, HFIN.out] at hrS
          try dsimp only at hrS
          refine wp_calm ?_
          refine start_ (n := 7) (S := fun w' => w'.cell? ⟨p, 7, none⟩ = some (.map (some mb)) ∧ w'.cell? ⟨w.heap.size, 0, none⟩ = some (.int .i64 τ) ∧ w'.cell? ⟨w.heap.size, 1, none⟩ = some (.int .i64 κ) ∧ w'.cell? ⟨a9, 0, none⟩ = some (.int .i64 y1) ∧ w'.cell? ⟨a9, 1, none⟩ = some (.int .i64 y2)) (ds := [6]) #[false, false, false, false, false, false, false] (by kernel_rfl) rfl rfl ⟨s7, s0, s1, s2, s3⟩ (fun hHeld => ?_)
          refine pure_ (i := 0) (N := some 61) (v := ?_) (a' := ?_) #[true, false, false, false, false, false, false] rfl rfl (by kernel_rfl) (fun _ _ _ h => h) (Or.inl ⟨by rfl, ?_⟩) ?_ ?_
          rotate_left
          · intro w'
            go_simp
            with_reducible rfl
          rotate_left
          · simp only [Act.put, List.setIfInBounds_toArray, List.set_cons_zero, List.set_cons_succ, i64_w, i32_w]
            rfl
          refine pure_ (i := 1) (N := some 62) (v := ?_) (a' := ?_) #[true, true, false, false, false, false, false] rfl rfl (by kernel_rfl) (fun _ _ _ h => h) (Or.inl ⟨by rfl, ?_⟩) ?_ ?_
          rotate_left
          · intro w'
            go_simp
            with_reducible rfl
          rotate_left
          · simp only [Act.put, List.setIfInBounds_toArray, List.set_cons_zero, List.set_cons_succ, i64_w, i32_w]
            rfl
          refine pure_ (i := 2) (N := some 63) (v := ?_) (a' := ?_) #[true, true, true, false, false, false, false] rfl rfl (by kernel_rfl) (fun _ _ _ h => h) (Or.inl ⟨by rfl, ?_⟩) ?_ ?_
          rotate_left
          · intro w'
            go_simp
            with_reducible rfl
          rotate_left
          · simp only [Act.put, List.setIfInBounds_toArray, List.set_cons_zero, List.set_cons_succ, i64_w, i32_w]
            rfl
          refine take_ (i := 3) (N := some 64) (v := ?_) (a' := ?_) #[true, true, true, true, false, false, false] rfl rfl (by kernel_rfl) (fun _ _ _ h => h) (Or.inl ⟨by rfl, ?_⟩) hHeld ?_ ?_
          rotate_left
          · rintro w' ⟨s0, s1, s2, s3, s4⟩
            go_simp
            with_reducible rfl
          rotate_left
          · simp only [Act.put, List.setIfInBounds_toArray, List.set_cons_zero, List.set_cons_succ, i64_w, i32_w]
            rfl
          refine take_ (i := 4) (N := some 65) (v := ?_) (a' := ?_) #[true, true, true, true, true, false, false] rfl rfl (by kernel_rfl) (fun _ _ _ h => h) (Or.inl ⟨by rfl, ?_⟩) hHeld ?_ ?_
          rotate_left
          · rintro w' ⟨s0, s1, s2, s3, s4⟩
            go_simp
            with_reducible rfl
          rotate_left
          · simp only [Act.put, List.setIfInBounds_toArray, List.set_cons_zero, List.set_cons_succ, i64_w, i32_w]
            rfl
          refine take_ (i := 5) (N := some 66) (v := ?_) (a' := ?_) #[true, true, true, true, true, true, false] rfl rfl (by kernel_rfl) (fun _ _ _ h => h) (Or.inl ⟨by rfl, ?_⟩) hHeld ?_ ?_
          rotate_left
          · rintro w' ⟨s0, s1, s2, s3, s4⟩
            go_simp
            with_reducible rfl
          rotate_left
          · simp only [Act.put, List.setIfInBounds_toArray, List.set_cons_zero, List.set_cons_succ, i64_w, i32_w]
            rfl
          refine last_ (i := 6) (N := none) #[true, true, true, true, true, true, true] rfl rfl (by kernel_rfl) (by decide) (fun K hK => ?_)
          refine skip_ (w1 := ?_) (by rfl) rfl ?_ ?_
          rotate_left
          · go_simp
            rfl
          refine hK.out _ _ ?_
          clear hK K
          refine done_ (by kernel_rfl) ?_
          refine calm_normal ?_
          have HKS := Lib.hid hkS
          have hgS' : wT.grownBy wS (some mb) := ⟨hgS.os, hgS.tape, hgS.output, hgS.size, hgS.block⟩
          have hza := blk_lt' K9T.out
          have hzb := blk_lt' K1T.out
          have k9 : wS.heap[a9]? = some (.cells #[.int .i64 y1, .int .i64 y2] 76 (0, 0)) := (hgS'.block _ hza (by simp; omega)).trans K9T.out
          have k1 : wS.heap[w.heap.size + 1]? = some (.cells #[.int .i64 0, .int .i64 0] 76 (0, 0)) := (hgS'.block _ hzb (by simp; omega)).trans K1T.out
          clear hrS s7 s0 s1 s2 s3 hkS
          have c4 : wS.cell? ⟨w.heap.size + 1, 1, none⟩ = some (.int .i64 0) := (blk_cell' k1 1).trans rfl
          have c0 : wS.cell? ⟨w.heap.size + 1, 0, none⟩ = some (.int .i64 0) := (blk_cell' k1 0).trans rfl
          have c3 : ∀ i, wS.frozen? ⟨w.heap.size + 1, i, none⟩ = false := fun i => blk_frozen' k1 i
          have d4 : wS.cell? ⟨a9, 1, none⟩ = some (.int .i64 y2) := (blk_cell' k9 1).trans rfl
          have d0 : wS.cell? ⟨a9, 0, none⟩ = some (.int .i64 y1) := (blk_cell' k9 0).trans rfl
          have d3 : ∀ i, wS.frozen? ⟨a9, i, none⟩ = false := fun i => blk_frozen' k9 i
          go_wp2
          refine bodyPost_ret (results_cell_row rfl _ _ (w.heap.size + 1) 76 #[.int .i64 y1, .int .i64 y2] (0, 0) _ rfl (two_put k1 _ _) Try.underlying76 rfl (by kernel_rfl)) rfl ?_
          refine ⟨by rw [HFIN.out], ?_, ?_⟩
          · exact HKS.out.kept (row := some (w.heap.size + 1)) ⟨rfl, rfl, rfl, by simp [World.setCell], fun i hi hne => (Below.heap_setCell _ _ _ _ (fun e => hne (by rw [e]))).trans (Below.heap_setCell _ _ _ _ (fun e => hne (by rw [e])))⟩ (fun e => by cases e; omega)
          · have hBS : Bel w.heap.size mb w wS := BT.trans (Bel.of_grown hgS' BT.size (fun k e => by cases e; exact .inl rfl))
            exact (hBS.set (p := ⟨w.heap.size + 1, 0, none⟩) (.inr (by simp)) _).set (p := ⟨w.heap.size + 1, 1, none⟩) (.inr (by simp)) _
    · have hx : (x1, x2) = F t κ := by rw [← HK.out]; exact HBX.out rfl
      have HX := Lib.hid hx
      clear hx
      have c4 : w4.cell? ⟨w.heap.size + 1, 1, none⟩ = some (.int .i64 0) := (blk_cell' k1 1).trans rfl
      have c0 : w4.cell? ⟨w.heap.size + 1, 0, none⟩ = some (.int .i64 0) := (blk_cell' k1 0).trans rfl
      have c3 : ∀ i, w4.frozen? ⟨w.heap.size + 1, i, none⟩ = false := fun i => blk_frozen' k1 i
      have d4 : w4.cell? ⟨w.heap.size + 2, 1, none⟩ = some (.int .i64 x2) := (blk_cell' n3 1).trans rfl
      have d0 : w4.cell? ⟨w.heap.size + 2, 0, none⟩ = some (.int .i64 x1) := (blk_cell' n3 0).trans rfl
      have d3 : ∀ i, w4.frozen? ⟨w.heap.size + 2, i, none⟩ = false := fun i => blk_frozen' n3 i
      go_wp2
      refine bodyPost_ret (results_cell_row rfl _ _ (w.heap.size + 1) 76 #[.int .i64 x1, .int .i64 x2] (0, 0) _ rfl (two_put k1 _ _) Try.underlying76 rfl (by kernel_rfl)) rfl ?_
      refine ⟨by rw [← HX.out], ?_, ?_⟩
      · exact kk.kept (row := some (w.heap.size + 1)) ⟨rfl, rfl, rfl, by simp [World.setCell], fun i hi hne => (Below.heap_setCell _ _ _ _ (fun e => hne (by rw [e]))).trans (Below.heap_setCell _ _ _ _ (fun e => hne (by rw [e])))⟩ (fun e => by cases e; omega)
      · exact Bel.of_below ((hB04.setCell (by simp) _).setCell (by simp) _)
theorem best_any (p : Nat) (s : S31) (hs : PkOk s) (hold T : Nat) (h0 : 1 ≤ hold) (h1 : hold ≤ 100) (hT : T ≤ 1000) (mb : Nat) (hpm : p ≠ mb) : ∀ n t k : Nat, T - t ≤ n → t ≤ T → k ≤ 20 → BestOk (bestF s hold T) p s hold T mb t k := by
  intro n
  induction n with
  | zero =>
    intro t k hn ht hk
    exact best_step p s hs hold T h0 h1 hT mb hpm t k ht hk (fun t' k' h1 h2 h3 => by omega)
  | succ n ih =>
    intro t k hn ht hk
    exact best_step p s hs hold T h0 h1 hT mb hpm t k ht hk (fun t' k' h1 h2 h3 => ih t' k' (by omega) h2 h3)
end Go.Proofs.Ytiglkpgoakibaab
