/- The check of a cluster (Check of the package sleep), walked by hand where the cluster is valid; elsewhere nothing is said. Condition: as it stands in sleep_Check.f. -/
import Derived.Test.YtiglkpgoakibaabPTopRegroupedx0
import Derived.Test.YtiglkpgoakibaabPTopRegroupedx1
import Derived.Lib.Hide
import Derived.Test.YtiglkpgoakibaabRound
namespace Go.Proofs.Ytiglkpgoakibaab.PTopRegrouped
open Go.RowKit Go.Proofs.YtiglkpgoakibaabW.PrintWords Go.Proofs.YtiglkpgoakibaabW.PrintLast Go.Proofs.YtiglkpgoakibaabW.PrintMore
set_option linter.unusedVariables false
set_option linter.unusedSimpArgs false

def sleep_Check.nd (G : Int) (x : S31) : Bool := decide ((0 ≤ x.f0 ∧ x.f0 ≤ 2 ^ G.toNat - 1) ∧ (0 ≤ x.f1 ∧ x.f1 ≤ 10000) ∧ (0 ≤ x.f2 ∧ x.f2 ≤ x.f1) ∧ (0 ≤ x.f3 ∧ x.f3 ≤ 20) ∧ 1 ≤ x.f4 ∧ x.f4 ≤ 1000)
def sleep_Check.f (k : Nat) (a0_0 : Int) (a0_1 : Int) (l0_2 : List (S31)) : Option (Int) :=
  if ((1 ≤ a0_0 ∧ a0_0 ≤ 8) ∧ (1 ≤ a0_1 ∧ a0_1 ≤ 100) ∧ l0_2.length ≤ 16 ∧ l0_2.all (sleep_Check.nd a0_0) = true) ∧ l0_2.length + 2 ≤ k then some 0 else none
theorem sleep_Check.mono : ∀ a0 a1 a2 k, LeO (sleep_Check.f k a0 a1 a2) (sleep_Check.f (k + 1) a0 a1 a2) := by
  intro a0 a1 a2 k r h
  unfold sleep_Check.f at h ⊢
  split at h
  · rename_i hc
    rw [if_pos ⟨hc.1, by omega⟩]
    exact h
  · cases h
theorem sleep_Check.top {G : Int} (g0 : 1 ≤ G) (g1 : G ≤ 8) : wrap64 ((2 : Int) ^ G.toNat) = 2 ^ G.toNat ∧ wrap64 ((2 : Int) ^ G.toNat - 1) = 2 ^ G.toNat - 1 := by
  have : G = 1 ∨ G = 2 ∨ G = 3 ∨ G = 4 ∨ G = 5 ∨ G = 6 ∨ G = 7 ∨ G = 8 := by omega
  rcases this with rfl | rfl | rfl | rfl | rfl | rfl | rfl | rfl <;> exact ⟨by kernel_rfl, by kernel_rfl⟩
theorem sleep_Check.win {a b c : Int} (h : b ≤ a ∧ a ≤ c) : sleep_within.f a b c = some true := by
  unfold sleep_within.f
  rw [if_pos h.1, decide_eq_true h.2]
theorem sleep_Check.spot {w : World} {a : Addr} {v : Value} (h : w.cell? a = some v) : a = ⟨a.block, a.off, none⟩ := by
  obtain ⟨b, o, s⟩ := a
  cases s with
  | none => rfl
  | some s =>
    unfold World.cell? at h
    split at h <;> simp at h
theorem sleep_Check.add (b n j : Nat) : (⟨b, n, none⟩ : Addr).add j = ⟨b, n + j, none⟩ := by
  unfold Addr.add
  split <;> simp_all
/-- The nodes' cells. -/
theorem sleep_Check.cells {w : World} {A : Option Addr} {l : List S31} (h : Kd.C k31 w A l.length l) (h0 : 0 < l.length) :
    ∃ b off, A = some ⟨b, off, none⟩ ∧ b < w.heap.size ∧ ∀ (k : Nat) (x : S31), l[k]? = some x → w.cell? ⟨b, off + k * 5, none⟩ = some (.int .i64 x.f0) ∧ w.cell? ⟨b, off + k * 5 + 1, none⟩ = some (.int .i64 x.f1) ∧ w.cell? ⟨b, off + k * 5 + 2, none⟩ = some (.int .i64 x.f2) ∧ w.cell? ⟨b, off + k * 5 + 3, none⟩ = some (.int .i64 x.f3) ∧ w.cell? ⟨b, off + k * 5 + 4, none⟩ = some (.int .i64 x.f4) := by
  obtain ⟨ad, hA, hc⟩ := h.2.2 h0
  have hat : ∀ (k : Nat) (x : S31), l[k]? = some x → ∀ i u, [Value.int .i64 x.f0, .int .i64 x.f1, .int .i64 x.f2, .int .i64 x.f3, .int .i64 x.f4][i]? = some u → w.cell? (ad.add (k * 5 + i)) = some u := fun k x hx i u hu => by
    obtain ⟨cs, _, hk, hcs⟩ := hc k x hx
    have := k31_open hk
    subst this
    exact hcs i u hu
  have h1 := hat 0 _ (List.getElem?_eq_getElem h0) 0 _ rfl
  have h2 := sleep_Check.spot (show w.cell? ad = some _ from h1)
  refine ⟨ad.block, ad.off, by rw [← h2]; exact hA, World.block_lt_of_cell? w ad h1, fun k x hx => ?_⟩
  have h3 : ∀ i u, [Value.int .i64 x.f0, .int .i64 x.f1, .int .i64 x.f2, .int .i64 x.f3, .int .i64 x.f4][i]? = some u → w.cell? ⟨ad.block, ad.off + k * 5 + i, none⟩ = some u := fun i u hu => by
    have h4 := hat k x hx i u hu
    rw [h2, sleep_Check.add, ← Nat.add_assoc] at h4
    exact h4
  exact ⟨h3 0 _ rfl, h3 1 _ rfl, h3 2 _ rfl, h3 3 _ rfl, h3 4 _ rfl⟩

set_option maxRecDepth 100000 in
set_option maxHeartbeats 1000000 in
theorem sleep_Check.calls (k : Nat) (a0_0 : Int) (a0_1 : Int) (A0_2 : Option Addr) (c0_2 : Nat) (l0_2 : List (S31)) (r : Int) (w : World) (hr0_2 : Kd.C k31 w A0_2 l0_2.length l0_2) (hc0_2 : l0_2.length ≤ c0_2) (h : sleep_Check.f k a0_0 a0_1 l0_2 = some r) :
    Calls Try.prog 24 #[.agg #[.int .i64 a0_0, .int .i64 a0_1, .slice A0_2 l0_2.length c0_2]] w fun e w' => e = .returned (.int .i64 r) ∧ Below w.heap.size w w' := by
  have hu24 := Try.underlying24
  have hu31 := Try.underlying31
  have hmx : Try.prog.follows .mixedOrders = true := by kernel_rfl
  unfold sleep_Check.f at h
  split at h
  · rename_i hc
    obtain ⟨⟨⟨g0, g1⟩, ⟨e0, e1⟩, hl16, hall⟩, _⟩ := hc
    cases h
    obtain ⟨hsh, htop⟩ := sleep_Check.top g0 g1
    obtain ⟨t2, ht2⟩ : ∃ t2 : Int, (2 : Int) ^ a0_0.toNat = t2 := ⟨_, rfl⟩
    obtain ⟨tp, htp⟩ : ∃ tp : Int, t2 - 1 = tp := ⟨_, rfl⟩
    rw [ht2] at htop
    replace hsh := hsh.trans ht2
    replace htop := htop.trans htp
    have HND : Hid (∀ x ∈ l0_2, (0 ≤ x.f0 ∧ x.f0 ≤ tp) ∧ (0 ≤ x.f1 ∧ x.f1 ≤ 10000) ∧ (0 ≤ x.f2 ∧ x.f2 ≤ x.f1) ∧ (0 ≤ x.f3 ∧ x.f3 ≤ 20) ∧ 1 ≤ x.f4 ∧ x.f4 ≤ 1000) := fun x hx => by
      have h1 := List.all_eq_true.1 hall x hx
      unfold sleep_Check.nd at h1
      rw [ht2, htp] at h1
      exact of_decide_eq_true h1
    have hW1 := Lib.hid (sleep_Check.win ⟨g0, g1⟩)
    have hW2 := Lib.hid (sleep_Check.win ⟨e0, e1⟩)
    have h16 : decide ((16 : Int) < l0_2.length) = false := decide_eq_false (by omega)
    obtain ⟨len, hlen⟩ : ∃ len, l0_2.length = len := ⟨_, rfl⟩
    have HC := Lib.hid hr0_2
    have HLEN := Lib.hid hlen
    rw [hlen] at hl16 hc0_2 h16 ⊢
    have HTOP := Lib.hid htop
    clear hr0_2 hall hlen ht2 htp htop
    go_enter Try.func24, Try.ntmps24
    go_upto_region 1 with fail
    obtain ⟨w1, hw1⟩ : ∃ w1, w.alloc (.cells #[.int .i64 a0_0, .int .i64 a0_1, .slice A0_2 len c0_2] 24) = w1 := ⟨_, rfl⟩
    have hB1 : Below w.heap.size w w1 := by rw [← hw1]; exact (Below.refl _ w).alloc (Nat.le_refl _) _
    have k1 : w1.heap[w.heap.size]? = some (.cells #[.int .i64 a0_0, .int .i64 a0_1, .slice A0_2 len c0_2] 24 (0, 0)) := by rw [← hw1]; exact heap_alloc_new w _
    rw [hw1]
    have p0 : w1.cell? ⟨w.heap.size, 0, none⟩ = some (.int .i64 a0_0) := (blk_cell k1 0).trans rfl
    have p1 : w1.cell? ⟨w.heap.size, 1, none⟩ = some (.int .i64 a0_1) := (blk_cell k1 1).trans rfl
    have p2 : w1.cell? ⟨w.heap.size, 2, none⟩ = some (.slice A0_2 len c0_2) := (blk_cell k1 2).trans rfl
    have K1 := Lib.hid k1
    clear hw1 k1
    go_wp2_with fail
    refine (sleep_within.calls a0_0 1 8 true _ hW1.out).mono ?_
    rintro e w2 ⟨rfl, hD2⟩
    have hB2 := hD2.below
    have p0 := pw_cell_below hB2 p0
    have p1 := pw_cell_below hB2 p1
    have p2 := pw_cell_below hB2 p2
    go_wp2_with fail
    refine (sleep_within.calls a0_1 1 100 true _ hW2.out).mono ?_
    rintro e w3 ⟨rfl, hD3⟩
    have hB3 := hD3.below
    have p0 := pw_cell_below hB3 p0
    have p1 := pw_cell_below hB3 p1
    have p2 := pw_cell_below hB3 p2
    have hB03 : Below w.heap.size w w3 := hB1.trans ((hB2.trans (hB3.mono hB2.size)).mono hB1.size)
    have hlt3 : w.heap.size < w3.heap.size := World.block_lt_of_cell? w3 ⟨w.heap.size, 0, none⟩ p0
    go_wp2_with fail
    go_loopw [24] (fun i wr => ∃ k : Nat, k ≤ len ∧ i = .int .i64 k ∧ Below w3.heap.size w3 wr) (fun i _ => len - (intOf i).toNat)
    case atStart => exact ⟨0, Nat.zero_le _, rfl, Below.refl _ _⟩
    case round =>
      obtain ⟨k, hk, rfl, hBr⟩ := hrel
      obtain ⟨wa, rfl⟩ : ∃ wa : World, wa = wr := ⟨_, rfl⟩
      by_cases hlt : k < len
      · obtain ⟨x, hx⟩ : ∃ x, l0_2[k]? = some x := ⟨_, List.getElem?_eq_getElem (by rw [HLEN.out]; exact hlt)⟩
        obtain ⟨b, off, hA, hb, hcl⟩ := sleep_Check.cells HC.out (by rw [HLEN.out]; omega)
        obtain ⟨d0, d1, d2, d3, d4⟩ := hcl k x hx
        obtain ⟨n0, n1, n2, n3, n4⟩ := HND.out x (List.mem_of_getElem? hx)
        obtain rfl := hA
        have hBw : Below w.heap.size w wa := hB03.trans (hBr.mono hB03.size)
        have f0 := pw_cell_below hBw d0
        have f1 := pw_cell_below hBw d1
        have f2 := pw_cell_below hBw d2
        have f3 := pw_cell_below hBw d3
        have f4 := pw_cell_below hBw d4
        have q0 := pw_cell_below hBr p0
        have W0 : Hid (sleep_within.f x.f0 0 (wrap64 (t2 - 1)) = some true) := by
          rw [HTOP.out]
          exact sleep_Check.win n0
        have W1 := Lib.hid (sleep_Check.win n1)
        have W2 := Lib.hid (sleep_Check.win n2)
        have W3 := Lib.hid (sleep_Check.win n3)
        have W4 := Lib.hid (sleep_Check.win n4)
        clear d0 d1 d2 d3 d4 n0 n1 n2 n3 n4 hcl hx
        go_upto_region 6 with fail
        obtain ⟨w4, hw4⟩ : ∃ w4, wa.alloc (.cells #[.int .i64 x.f0, .int .i64 x.f1, .int .i64 x.f2, .int .i64 x.f3, .int .i64 x.f4] 31) = w4 := ⟨_, rfl⟩
        have hB4 : Below wa.heap.size wa w4 := by rw [← hw4]; exact (Below.refl _ wa).alloc (Nat.le_refl _) _
        have k4 : w4.heap[wa.heap.size]? = some (.cells #[.int .i64 x.f0, .int .i64 x.f1, .int .i64 x.f2, .int .i64 x.f3, .int .i64 x.f4] 31 (0, 0)) := by rw [← hw4]; exact heap_alloc_new wa _
        rw [hw4]
        have z0 := pw_cell_below hB4 q0
        have z1 : w4.cell? ⟨wa.heap.size, 0, none⟩ = some (.int .i64 x.f0) := (blk_cell k4 0).trans rfl
        have z2 : w4.cell? ⟨wa.heap.size, 1, none⟩ = some (.int .i64 x.f1) := (blk_cell k4 1).trans rfl
        have z3 : w4.cell? ⟨wa.heap.size, 2, none⟩ = some (.int .i64 x.f2) := (blk_cell k4 2).trans rfl
        have z4 : w4.cell? ⟨wa.heap.size, 3, none⟩ = some (.int .i64 x.f3) := (blk_cell k4 3).trans rfl
        have z5 : w4.cell? ⟨wa.heap.size, 4, none⟩ = some (.int .i64 x.f4) := (blk_cell k4 4).trans rfl
        clear hw4 k4 f0 f1 f2 f3 f4 q0
        refine wp_calm ?_
        refine start_ (n := 34) (S := fun w' => w'.cell? ⟨w.heap.size, 0, none⟩ = some (.int .i64 a0_0) ∧ w'.cell? ⟨wa.heap.size, 0, none⟩ = some (.int .i64 x.f0) ∧ w'.cell? ⟨wa.heap.size, 1, none⟩ = some (.int .i64 x.f1) ∧ w'.cell? ⟨wa.heap.size, 2, none⟩ = some (.int .i64 x.f2) ∧ w'.cell? ⟨wa.heap.size, 3, none⟩ = some (.int .i64 x.f3) ∧ w'.cell? ⟨wa.heap.size, 4, none⟩ = some (.int .i64 x.f4)) (ds := []) #[false, false, false, false, false, false, false, false, false, false, false, false, false, false, false, false, false, false, false, false, false, false, false, false, false, false, false, false, false, false, false, false, false, false] (by kernel_rfl) rfl rfl ⟨z0, z1, z2, z3, z4, z5⟩ (fun hHeld => ?_)
        refine pure_ (i := 0) (N := some 28) (v := ?_) (a' := ?_) #[true, false, false, false, false, false, false, false, false, false, false, false, false, false, false, false, false, false, false, false, false, false, false, false, false, false, false, false, false, false, false, false, false, false] rfl rfl (by kernel_rfl) (fun _ _ _ h => h) (Or.inl ⟨by rfl, ?_⟩) ?_ ?_
        rotate_left
        · intro w'
          go_simp
          with_reducible rfl
        rotate_left
        · simp only [Act.put, List.setIfInBounds_toArray, List.set_cons_zero, List.set_cons_succ, i64_w, i32_w]
          rfl
        refine pure_ (i := 2) (N := some 30) (v := ?_) (a' := ?_) #[true, false, true, false, false, false, false, false, false, false, false, false, false, false, false, false, false, false, false, false, false, false, false, false, false, false, false, false, false, false, false, false, false, false] rfl rfl (by kernel_rfl) (fun _ _ _ h => h) (Or.inl ⟨by rfl, ?_⟩) ?_ ?_
        rotate_left
        · intro w'
          go_simp
          with_reducible rfl
        rotate_left
        · simp only [Act.put, List.setIfInBounds_toArray, List.set_cons_zero, List.set_cons_succ, i64_w, i32_w]
          rfl
        refine take_ (i := 1) (N := some 29) (v := ?_) (a' := ?_) #[true, true, true, false, false, false, false, false, false, false, false, false, false, false, false, false, false, false, false, false, false, false, false, false, false, false, false, false, false, false, false, false, false, false] rfl rfl (by kernel_rfl) (fun _ _ _ h => h) (Or.inl ⟨by rfl, ?_⟩) hHeld ?_ ?_
        rotate_left
        · rintro w' ⟨s0, s1, s2, s3, s4, s5⟩
          go_simp
          with_reducible rfl
        rotate_left
        · simp only [Act.put, List.setIfInBounds_toArray, List.set_cons_zero, List.set_cons_succ, i64_w, i32_w]
          rfl
        refine take_ (i := 3) (N := some 31) (v := ?_) (a' := ?_) #[true, true, true, true, false, false, false, false, false, false, false, false, false, false, false, false, false, false, false, false, false, false, false, false, false, false, false, false, false, false, false, false, false, false] rfl rfl (by kernel_rfl) (fun _ _ _ h => h) (Or.inl ⟨by rfl, ?_⟩) hHeld ?_ ?_
        rotate_left
        · rintro w' ⟨s0, s1, s2, s3, s4, s5⟩
          go_simp
          with_reducible rfl
        rotate_left
        · simp only [Act.put, List.setIfInBounds_toArray, List.set_cons_zero, List.set_cons_succ, i64_w, i32_w]
          rfl
        refine pure_ (i := 4) (N := some 32) (v := ?_) (a' := ?_) #[true, true, true, true, true, false, false, false, false, false, false, false, false, false, false, false, false, false, false, false, false, false, false, false, false, false, false, false, false, false, false, false, false, false] rfl rfl (by kernel_rfl) (fun _ _ _ h => h) (Or.inl ⟨by rfl, ?_⟩) ?_ ?_
        rotate_left
        · intro w'
          go_simp
          with_reducible rfl
        rotate_left
        · simp only [Act.put, List.setIfInBounds_toArray, List.set_cons_zero, List.set_cons_succ, i64_w, i32_w]
          rfl
        refine pure_ (i := 5) (N := some 33) (v := ?_) (a' := ?_) #[true, true, true, true, true, true, false, false, false, false, false, false, false, false, false, false, false, false, false, false, false, false, false, false, false, false, false, false, false, false, false, false, false, false] rfl rfl (by kernel_rfl) (fun _ _ _ h => h) (Or.inl ⟨by rfl, ?_⟩) ?_ ?_
        rotate_left
        · intro w'
          go_simp
          with_reducible rfl
        rotate_left
        · simp only [Act.put, List.setIfInBounds_toArray, List.set_cons_zero, List.set_cons_succ, i64_w, i32_w]
          rfl
        refine one_ (i := 6) (N := some 34) #[true, true, true, true, true, true, true, false, false, false, false, false, false, false, false, false, false, false, false, false, false, false, false, false, false, false, false, false, false, false, false, false, false, false] rfl rfl (by kernel_rfl) (by decide) (fun K hK => ?_)
        refine goes_ Try.func25 (by kernel_rfl) rfl #[.int .i64 x.f0, .int .i64 0, .int .i64 (wrap64 (t2 - 1))] (by rfl) rfl rfl (by simp only [List.map_toArray, List.map_cons, List.map_nil]; rfl) ?_
        with_reducible refine (sleep_within.calls x.f0 0 (wrap64 (t2 - 1)) true _ W0.out).mono ?_
        rintro e V0 ⟨rfl, hD0⟩
        refine ⟨_, rfl, ?_⟩
        have hV0 := hD0.below
        refine hK.out _ _ ⟨pw_cell_below hV0 hHeld.1, pw_cell_below hV0 hHeld.2.1, pw_cell_below hV0 hHeld.2.2.1, pw_cell_below hV0 hHeld.2.2.2.1, pw_cell_below hV0 hHeld.2.2.2.2.1, pw_cell_below hV0 hHeld.2.2.2.2.2⟩ (fun hHeld => ?_)
        clear hK K
        refine norm_ (a' := ?_) ?_ ?_
        rotate_left
        · show Act.put _ (some 34) _ = _
          simp only [Act.put, List.setIfInBounds_toArray, List.set_cons_zero, List.set_cons_succ, i64_w, i32_w]
          rfl
        refine pure_ (i := 7) (N := some 35) (v := ?_) (a' := ?_) #[true, true, true, true, true, true, true, true, false, false, false, false, false, false, false, false, false, false, false, false, false, false, false, false, false, false, false, false, false, false, false, false, false, false] rfl rfl (by kernel_rfl) (fun _ _ _ h => h) (Or.inl ⟨by rfl, ?_⟩) ?_ ?_
        rotate_left
        · intro w'
          go_simp
          with_reducible rfl
        rotate_left
        · simp only [Act.put, List.setIfInBounds_toArray, List.set_cons_zero, List.set_cons_succ, i64_w, i32_w]
          rfl
        refine pure_ (i := 8) (N := some 36) (v := ?_) (a' := ?_) #[true, true, true, true, true, true, true, true, true, false, false, false, false, false, false, false, false, false, false, false, false, false, false, false, false, false, false, false, false, false, false, false, false, false] rfl rfl (by kernel_rfl) (fun _ _ _ h => h) (Or.inl ⟨by rfl, ?_⟩) ?_ ?_
        rotate_left
        · intro w'
          go_simp
          with_reducible rfl
        rotate_left
        · simp only [Act.put, List.setIfInBounds_toArray, List.set_cons_zero, List.set_cons_succ, i64_w, i32_w]
          rfl
        refine pure_ (i := 9) (N := some 37) (v := ?_) (a' := ?_) #[true, true, true, true, true, true, true, true, true, true, false, false, false, false, false, false, false, false, false, false, false, false, false, false, false, false, false, false, false, false, false, false, false, false] rfl rfl (by kernel_rfl) (fun _ _ _ h => h) (Or.inl ⟨by rfl, ?_⟩) ?_ ?_
        rotate_left
        · intro w'
          go_simp
          with_reducible rfl
        rotate_left
        · simp only [Act.put, List.setIfInBounds_toArray, List.set_cons_zero, List.set_cons_succ, i64_w, i32_w]
          rfl
        refine take_ (i := 10) (N := some 38) (v := ?_) (a' := ?_) #[true, true, true, true, true, true, true, true, true, true, true, false, false, false, false, false, false, false, false, false, false, false, false, false, false, false, false, false, false, false, false, false, false, false] rfl rfl (by kernel_rfl) (fun _ _ _ h => h) (Or.inl ⟨by rfl, ?_⟩) hHeld ?_ ?_
        rotate_left
        · rintro w' ⟨s0, s1, s2, s3, s4, s5⟩
          go_simp
          with_reducible rfl
        rotate_left
        · simp only [Act.put, List.setIfInBounds_toArray, List.set_cons_zero, List.set_cons_succ, i64_w, i32_w]
          rfl
        refine one_ (i := 11) (N := some 39) #[true, true, true, true, true, true, true, true, true, true, true, true, false, false, false, false, false, false, false, false, false, false, false, false, false, false, false, false, false, false, false, false, false, false] rfl rfl (by kernel_rfl) (by decide) (fun K hK => ?_)
        refine goes_ Try.func25 (by kernel_rfl) rfl #[.int .i64 x.f1, .int .i64 0, .int .i64 10000] (by rfl) rfl rfl (by simp only [List.map_toArray, List.map_cons, List.map_nil]; rfl) ?_
        with_reducible refine (sleep_within.calls x.f1 0 10000 true _ W1.out).mono ?_
        rintro e V1 ⟨rfl, hD1⟩
        refine ⟨_, rfl, ?_⟩
        have hV1 := hD1.below
        refine hK.out _ _ ⟨pw_cell_below hV1 hHeld.1, pw_cell_below hV1 hHeld.2.1, pw_cell_below hV1 hHeld.2.2.1, pw_cell_below hV1 hHeld.2.2.2.1, pw_cell_below hV1 hHeld.2.2.2.2.1, pw_cell_below hV1 hHeld.2.2.2.2.2⟩ (fun hHeld => ?_)
        clear hK K
        refine norm_ (a' := ?_) ?_ ?_
        rotate_left
        · show Act.put _ (some 39) _ = _
          simp only [Act.put, List.setIfInBounds_toArray, List.set_cons_zero, List.set_cons_succ, i64_w, i32_w]
          rfl
        refine pure_ (i := 12) (N := some 40) (v := ?_) (a' := ?_) #[true, true, true, true, true, true, true, true, true, true, true, true, true, false, false, false, false, false, false, false, false, false, false, false, false, false, false, false, false, false, false, false, false, false] rfl rfl (by kernel_rfl) (fun _ _ _ h => h) (Or.inl ⟨by rfl, ?_⟩) ?_ ?_
        rotate_left
        · intro w'
          go_simp
          with_reducible rfl
        rotate_left
        · simp only [Act.put, List.setIfInBounds_toArray, List.set_cons_zero, List.set_cons_succ, i64_w, i32_w]
          rfl
        refine pure_ (i := 13) (N := some 41) (v := ?_) (a' := ?_) #[true, true, true, true, true, true, true, true, true, true, true, true, true, true, false, false, false, false, false, false, false, false, false, false, false, false, false, false, false, false, false, false, false, false] rfl rfl (by kernel_rfl) (fun _ _ _ h => h) (Or.inl ⟨by rfl, ?_⟩) ?_ ?_
        rotate_left
        · intro w'
          go_simp
          with_reducible rfl
        rotate_left
        · simp only [Act.put, List.setIfInBounds_toArray, List.set_cons_zero, List.set_cons_succ, i64_w, i32_w]
          rfl
        refine pure_ (i := 14) (N := some 42) (v := ?_) (a' := ?_) #[true, true, true, true, true, true, true, true, true, true, true, true, true, true, true, false, false, false, false, false, false, false, false, false, false, false, false, false, false, false, false, false, false, false] rfl rfl (by kernel_rfl) (fun _ _ _ h => h) (Or.inl ⟨by rfl, ?_⟩) ?_ ?_
        rotate_left
        · intro w'
          go_simp
          with_reducible rfl
        rotate_left
        · simp only [Act.put, List.setIfInBounds_toArray, List.set_cons_zero, List.set_cons_succ, i64_w, i32_w]
          rfl
        refine pure_ (i := 15) (N := some 43) (v := ?_) (a' := ?_) #[true, true, true, true, true, true, true, true, true, true, true, true, true, true, true, true, false, false, false, false, false, false, false, false, false, false, false, false, false, false, false, false, false, false] rfl rfl (by kernel_rfl) (fun _ _ _ h => h) (Or.inl ⟨by rfl, ?_⟩) ?_ ?_
        rotate_left
        · intro w'
          go_simp
          with_reducible rfl
        rotate_left
        · simp only [Act.put, List.setIfInBounds_toArray, List.set_cons_zero, List.set_cons_succ, i64_w, i32_w]
          rfl
        refine pure_ (i := 17) (N := some 45) (v := ?_) (a' := ?_) #[true, true, true, true, true, true, true, true, true, true, true, true, true, true, true, true, false, true, false, false, false, false, false, false, false, false, false, false, false, false, false, false, false, false] rfl rfl (by kernel_rfl) (fun _ _ _ h => h) (Or.inl ⟨by rfl, ?_⟩) ?_ ?_
        rotate_left
        · intro w'
          go_simp
          with_reducible rfl
        rotate_left
        · simp only [Act.put, List.setIfInBounds_toArray, List.set_cons_zero, List.set_cons_succ, i64_w, i32_w]
          rfl
        refine take_ (i := 16) (N := some 44) (v := ?_) (a' := ?_) #[true, true, true, true, true, true, true, true, true, true, true, true, true, true, true, true, true, true, false, false, false, false, false, false, false, false, false, false, false, false, false, false, false, false] rfl rfl (by kernel_rfl) (fun _ _ _ h => h) (Or.inl ⟨by rfl, ?_⟩) hHeld ?_ ?_
        rotate_left
        · rintro w' ⟨s0, s1, s2, s3, s4, s5⟩
          go_simp
          with_reducible rfl
        rotate_left
        · simp only [Act.put, List.setIfInBounds_toArray, List.set_cons_zero, List.set_cons_succ, i64_w, i32_w]
          rfl
        refine take_ (i := 18) (N := some 46) (v := ?_) (a' := ?_) #[true, true, true, true, true, true, true, true, true, true, true, true, true, true, true, true, true, true, true, false, false, false, false, false, false, false, false, false, false, false, false, false, false, false] rfl rfl (by kernel_rfl) (fun _ _ _ h => h) (Or.inl ⟨by rfl, ?_⟩) hHeld ?_ ?_
        rotate_left
        · rintro w' ⟨s0, s1, s2, s3, s4, s5⟩
          go_simp
          with_reducible rfl
        rotate_left
        · simp only [Act.put, List.setIfInBounds_toArray, List.set_cons_zero, List.set_cons_succ, i64_w, i32_w]
          rfl
        refine one_ (i := 19) (N := some 47) #[true, true, true, true, true, true, true, true, true, true, true, true, true, true, true, true, true, true, true, true, false, false, false, false, false, false, false, false, false, false, false, false, false, false] rfl rfl (by kernel_rfl) (by decide) (fun K hK => ?_)
        refine goes_ Try.func25 (by kernel_rfl) rfl #[.int .i64 x.f2, .int .i64 0, .int .i64 x.f1] (by rfl) rfl rfl (by simp only [List.map_toArray, List.map_cons, List.map_nil]; rfl) ?_
        with_reducible refine (sleep_within.calls x.f2 0 x.f1 true _ W2.out).mono ?_
        rintro e V2 ⟨rfl, hD2⟩
        refine ⟨_, rfl, ?_⟩
        have hV2 := hD2.below
        refine hK.out _ _ ⟨pw_cell_below hV2 hHeld.1, pw_cell_below hV2 hHeld.2.1, pw_cell_below hV2 hHeld.2.2.1, pw_cell_below hV2 hHeld.2.2.2.1, pw_cell_below hV2 hHeld.2.2.2.2.1, pw_cell_below hV2 hHeld.2.2.2.2.2⟩ (fun hHeld => ?_)
        clear hK K
        refine norm_ (a' := ?_) ?_ ?_
        rotate_left
        · show Act.put _ (some 47) _ = _
          simp only [Act.put, List.setIfInBounds_toArray, List.set_cons_zero, List.set_cons_succ, i64_w, i32_w]
          rfl
        refine pure_ (i := 20) (N := some 48) (v := ?_) (a' := ?_) #[true, true, true, true, true, true, true, true, true, true, true, true, true, true, true, true, true, true, true, true, true, false, false, false, false, false, false, false, false, false, false, false, false, false] rfl rfl (by kernel_rfl) (fun _ _ _ h => h) (Or.inl ⟨by rfl, ?_⟩) ?_ ?_
        rotate_left
        · intro w'
          go_simp
          with_reducible rfl
        rotate_left
        · simp only [Act.put, List.setIfInBounds_toArray, List.set_cons_zero, List.set_cons_succ, i64_w, i32_w]
          rfl
        refine pure_ (i := 21) (N := some 49) (v := ?_) (a' := ?_) #[true, true, true, true, true, true, true, true, true, true, true, true, true, true, true, true, true, true, true, true, true, true, false, false, false, false, false, false, false, false, false, false, false, false] rfl rfl (by kernel_rfl) (fun _ _ _ h => h) (Or.inl ⟨by rfl, ?_⟩) ?_ ?_
        rotate_left
        · intro w'
          go_simp
          with_reducible rfl
        rotate_left
        · simp only [Act.put, List.setIfInBounds_toArray, List.set_cons_zero, List.set_cons_succ, i64_w, i32_w]
          rfl
        refine pure_ (i := 22) (N := some 50) (v := ?_) (a' := ?_) #[true, true, true, true, true, true, true, true, true, true, true, true, true, true, true, true, true, true, true, true, true, true, true, false, false, false, false, false, false, false, false, false, false, false] rfl rfl (by kernel_rfl) (fun _ _ _ h => h) (Or.inl ⟨by rfl, ?_⟩) ?_ ?_
        rotate_left
        · intro w'
          go_simp
          with_reducible rfl
        rotate_left
        · simp only [Act.put, List.setIfInBounds_toArray, List.set_cons_zero, List.set_cons_succ, i64_w, i32_w]
          rfl
        refine pure_ (i := 23) (N := some 51) (v := ?_) (a' := ?_) #[true, true, true, true, true, true, true, true, true, true, true, true, true, true, true, true, true, true, true, true, true, true, true, true, false, false, false, false, false, false, false, false, false, false] rfl rfl (by kernel_rfl) (fun _ _ _ h => h) (Or.inl ⟨by rfl, ?_⟩) ?_ ?_
        rotate_left
        · intro w'
          go_simp
          with_reducible rfl
        rotate_left
        · simp only [Act.put, List.setIfInBounds_toArray, List.set_cons_zero, List.set_cons_succ, i64_w, i32_w]
          rfl
        refine take_ (i := 24) (N := some 52) (v := ?_) (a' := ?_) #[true, true, true, true, true, true, true, true, true, true, true, true, true, true, true, true, true, true, true, true, true, true, true, true, true, false, false, false, false, false, false, false, false, false] rfl rfl (by kernel_rfl) (fun _ _ _ h => h) (Or.inl ⟨by rfl, ?_⟩) hHeld ?_ ?_
        rotate_left
        · rintro w' ⟨s0, s1, s2, s3, s4, s5⟩
          go_simp
          with_reducible rfl
        rotate_left
        · simp only [Act.put, List.setIfInBounds_toArray, List.set_cons_zero, List.set_cons_succ, i64_w, i32_w]
          rfl
        refine one_ (i := 25) (N := some 53) #[true, true, true, true, true, true, true, true, true, true, true, true, true, true, true, true, true, true, true, true, true, true, true, true, true, true, false, false, false, false, false, false, false, false] rfl rfl (by kernel_rfl) (by decide) (fun K hK => ?_)
        refine goes_ Try.func25 (by kernel_rfl) rfl #[.int .i64 x.f3, .int .i64 0, .int .i64 20] (by rfl) rfl rfl (by simp only [List.map_toArray, List.map_cons, List.map_nil]; rfl) ?_
        with_reducible refine (sleep_within.calls x.f3 0 20 true _ W3.out).mono ?_
        rintro e V3 ⟨rfl, hD3⟩
        refine ⟨_, rfl, ?_⟩
        have hV3 := hD3.below
        refine hK.out _ _ ⟨pw_cell_below hV3 hHeld.1, pw_cell_below hV3 hHeld.2.1, pw_cell_below hV3 hHeld.2.2.1, pw_cell_below hV3 hHeld.2.2.2.1, pw_cell_below hV3 hHeld.2.2.2.2.1, pw_cell_below hV3 hHeld.2.2.2.2.2⟩ (fun hHeld => ?_)
        clear hK K
        refine norm_ (a' := ?_) ?_ ?_
        rotate_left
        · show Act.put _ (some 53) _ = _
          simp only [Act.put, List.setIfInBounds_toArray, List.set_cons_zero, List.set_cons_succ, i64_w, i32_w]
          rfl
        refine pure_ (i := 26) (N := some 54) (v := ?_) (a' := ?_) #[true, true, true, true, true, true, true, true, true, true, true, true, true, true, true, true, true, true, true, true, true, true, true, true, true, true, true, false, false, false, false, false, false, false] rfl rfl (by kernel_rfl) (fun _ _ _ h => h) (Or.inl ⟨by rfl, ?_⟩) ?_ ?_
        rotate_left
        · intro w'
          go_simp
          with_reducible rfl
        rotate_left
        · simp only [Act.put, List.setIfInBounds_toArray, List.set_cons_zero, List.set_cons_succ, i64_w, i32_w]
          rfl
        refine pure_ (i := 27) (N := some 55) (v := ?_) (a' := ?_) #[true, true, true, true, true, true, true, true, true, true, true, true, true, true, true, true, true, true, true, true, true, true, true, true, true, true, true, true, false, false, false, false, false, false] rfl rfl (by kernel_rfl) (fun _ _ _ h => h) (Or.inl ⟨by rfl, ?_⟩) ?_ ?_
        rotate_left
        · intro w'
          go_simp
          with_reducible rfl
        rotate_left
        · simp only [Act.put, List.setIfInBounds_toArray, List.set_cons_zero, List.set_cons_succ, i64_w, i32_w]
          rfl
        refine pure_ (i := 28) (N := some 56) (v := ?_) (a' := ?_) #[true, true, true, true, true, true, true, true, true, true, true, true, true, true, true, true, true, true, true, true, true, true, true, true, true, true, true, true, true, false, false, false, false, false] rfl rfl (by kernel_rfl) (fun _ _ _ h => h) (Or.inl ⟨by rfl, ?_⟩) ?_ ?_
        rotate_left
        · intro w'
          go_simp
          with_reducible rfl
        rotate_left
        · simp only [Act.put, List.setIfInBounds_toArray, List.set_cons_zero, List.set_cons_succ, i64_w, i32_w]
          rfl
        refine pure_ (i := 29) (N := some 57) (v := ?_) (a' := ?_) #[true, true, true, true, true, true, true, true, true, true, true, true, true, true, true, true, true, true, true, true, true, true, true, true, true, true, true, true, true, true, false, false, false, false] rfl rfl (by kernel_rfl) (fun _ _ _ h => h) (Or.inl ⟨by rfl, ?_⟩) ?_ ?_
        rotate_left
        · intro w'
          go_simp
          with_reducible rfl
        rotate_left
        · simp only [Act.put, List.setIfInBounds_toArray, List.set_cons_zero, List.set_cons_succ, i64_w, i32_w]
          rfl
        refine take_ (i := 30) (N := some 58) (v := ?_) (a' := ?_) #[true, true, true, true, true, true, true, true, true, true, true, true, true, true, true, true, true, true, true, true, true, true, true, true, true, true, true, true, true, true, true, false, false, false] rfl rfl (by kernel_rfl) (fun _ _ _ h => h) (Or.inl ⟨by rfl, ?_⟩) hHeld ?_ ?_
        rotate_left
        · rintro w' ⟨s0, s1, s2, s3, s4, s5⟩
          go_simp
          with_reducible rfl
        rotate_left
        · simp only [Act.put, List.setIfInBounds_toArray, List.set_cons_zero, List.set_cons_succ, i64_w, i32_w]
          rfl
        refine one_ (i := 31) (N := some 59) #[true, true, true, true, true, true, true, true, true, true, true, true, true, true, true, true, true, true, true, true, true, true, true, true, true, true, true, true, true, true, true, true, false, false] rfl rfl (by kernel_rfl) (by decide) (fun K hK => ?_)
        refine goes_ Try.func25 (by kernel_rfl) rfl #[.int .i64 x.f4, .int .i64 1, .int .i64 1000] (by rfl) rfl rfl (by simp only [List.map_toArray, List.map_cons, List.map_nil]; rfl) ?_
        with_reducible refine (sleep_within.calls x.f4 1 1000 true _ W4.out).mono ?_
        rintro e V4 ⟨rfl, hD4⟩
        refine ⟨_, rfl, ?_⟩
        have hV4 := hD4.below
        refine hK.out _ _ ⟨pw_cell_below hV4 hHeld.1, pw_cell_below hV4 hHeld.2.1, pw_cell_below hV4 hHeld.2.2.1, pw_cell_below hV4 hHeld.2.2.2.1, pw_cell_below hV4 hHeld.2.2.2.2.1, pw_cell_below hV4 hHeld.2.2.2.2.2⟩ (fun hHeld => ?_)
        clear hK K
        refine norm_ (a' := ?_) ?_ ?_
        rotate_left
        · show Act.put _ (some 59) _ = _
          simp only [Act.put, List.setIfInBounds_toArray, List.set_cons_zero, List.set_cons_succ, i64_w, i32_w]
          rfl
        refine pure_ (i := 32) (N := some 60) (v := ?_) (a' := ?_) #[true, true, true, true, true, true, true, true, true, true, true, true, true, true, true, true, true, true, true, true, true, true, true, true, true, true, true, true, true, true, true, true, true, false] rfl rfl (by kernel_rfl) (fun _ _ _ h => h) (Or.inl ⟨by rfl, ?_⟩) ?_ ?_
        rotate_left
        · intro w'
          go_simp
          with_reducible rfl
        rotate_left
        · simp only [Act.put, List.setIfInBounds_toArray, List.set_cons_zero, List.set_cons_succ, i64_w, i32_w]
          rfl
        refine pure_ (i := 33) (N := some 61) (v := ?_) (a' := ?_) #[true, true, true, true, true, true, true, true, true, true, true, true, true, true, true, true, true, true, true, true, true, true, true, true, true, true, true, true, true, true, true, true, true, true] rfl rfl (by kernel_rfl) (fun _ _ _ h => h) (Or.inl ⟨by rfl, ?_⟩) ?_ ?_
        rotate_left
        · intro w'
          go_simp
          with_reducible rfl
        rotate_left
        · simp only [Act.put, List.setIfInBounds_toArray, List.set_cons_zero, List.set_cons_succ, i64_w, i32_w]
          rfl
        refine done_ (by kernel_rfl) ?_
        refine calm_normal ?_
        go_wp2_with fail
        exact ⟨⟨k + 1, by omega, by simp, hBr.trans ((hB4.trans (((Below.refl _ w4).drew.trans (hV0.trans ((hV1.trans ((hV2.trans ((hV3.trans (hV4.mono hV3.size)).mono hV2.size)).mono hV1.size)).mono hV0.size))).mono hB4.size)).mono hBr.size)⟩, by simp [intOf]; omega⟩
      · obtain rfl : len = k := by omega
        clear hk
        go_wp2_with fail
        go_ret
        exact ⟨rfl, hB03.trans (hBr.mono hB03.size)⟩
  · cases h
end Go.Proofs.Ytiglkpgoakibaab.PTopRegrouped
