/- The law TopRegrouped inside its guards: the walk: it holds. Conditions: the cluster is valid and small, few nudges and ticks. -/
import Derived.Test.YtiglkpgoakibaabLawP
import Derived.Outline
namespace Go.Proofs.Ytiglkpgoakibaab
open Go.RowKit Go.Shelf PTopRegrouped Go.Proofs.YtiglkpgoakibaabW.PrintWords Go.Proofs.YtiglkpgoakibaabW.PrintLast
attribute [local go_sem] Oper.semAt_some
set_option linter.unusedSimpArgs false

theorem info31 : (Try.prog.info? 31).map (fun i => (i.zero, i.size, i.bytes)) = some (some (.agg #[.int .i64 0, .int .i64 0, .int .i64 0, .int .i64 0, .int .i64 0]), 5, 40) := by kernel_rfl
theorem info33 : (Try.prog.info? 33).map (fun i => (i.zero, i.size, i.bytes)) = some (some (.agg #[.int .i64 0, .int .i64 0, .int .i64 0, .int .i64 0]), 4, 32) := by kernel_rfl
theorem wrap_small (k : Nat) (h : k < 256) : wrap64 (k : Int) = k := by unfold wrap64; omega
theorem wrap_small' (k : Nat) (h : k < 256) : IntKind.i64.wrap (k : Int) = k := by rw [IntKind.wrap_i64]; omega
theorem around_x (n nd : Nat) (hn : n ≤ 16) (hd : nd < 256) : ∃ x : Nat, ignitiontop_around.f 0 nd n = some (x : Int) ∧ (0 < n → x < n) ∧ x ≤ 1000 := by
  by_cases h0 : n = 0
  · subst h0
    exact ⟨0, by unfold ignitiontop_around.f; rw [if_pos (by simp)]; rfl, fun h => absurd h (by omega), by omega⟩
  · refine ⟨rot n nd 0, around_eq (i := 0) (by omega) (by omega) (by omega) (by omega), fun h => rot_lt h, ?_⟩
    have := rot_lt (n := n) (x := nd) (i := 0) (by omega)
    omega

set_option maxRecDepth 100000 in
set_option maxHeartbeats 4000000 in
theorem law_in {G hold : Nat} {A : Option Addr} {c : Nat} {la : List S31} (hk : ClOk G hold la) (hn6 : la.length ≤ 6) (hlc : la.length ≤ c) (w : World) (ha : ClW w A la)
    (Al : Option Addr) (nb0 noff lc : Nat) (ls : List Ng) (hls : ls.length ≤ 60) (hll : ls.length ≤ lc) (hAl : 0 < ls.length → Al = some ⟨nb0, noff, none⟩) (hN : NgAt w nb0 noff ls) (T need : Int) (hT : T ≤ 60) (nd gp : Nat) (hnd : nd < 256) (hgp : gp < 256) :
    Calls Try.prog 3 #[.agg #[.int .i64 G, .int .i64 hold, .slice A la.length c], .slice Al ls.length lc, .int .i64 T, .int .u8 nd, .int .u8 gp, .int .i64 need] w fun e w' => e = .returned (.bool true) ∧ Below w.heap.size w w' := by
  have hu24 := Try.underlying24
  have hmx : Try.prog.follows .mixedOrders = true := by kernel_rfl
  have hG0 : 1 ≤ G := by have := hk.G0; omega
  have hG8 : G ≤ 8 := by have := hk.G1; omega
  have hct := ref_check G hold la
  rw [clOk_iff.2 hk, if_pos rfl] at hct
  obtain ⟨η, hη⟩ : ∃ η : Int, (hold : Int) = η := ⟨_, rfl⟩
  obtain ⟨n, hln⟩ : ∃ n, la.length = n := ⟨_, rfl⟩
  obtain ⟨m, hlm⟩ : ∃ m, ls.length = m := ⟨_, rfl⟩
  rw [hη, hln] at hct
  rw [hln] at hn6 hlc
  rw [hlm] at hls hll hAl
  obtain ⟨x, hx, hx1, hx2⟩ := around_x n nd (by omega) hnd
  obtain ⟨y, hy, hy0, hy2⟩ := around_x G gp (by omega) hgp
  have hy1 : y < G := hy0 (by omega)
  clear hy0
  obtain ⟨w1, hw1⟩ : ∃ w1, w.alloc (.cells #[.int .i64 G, .int .i64 η, .slice A n c] 24) = w1 := ⟨_, rfl⟩
  have hB1 : Below w.heap.size w w1 := by rw [← hw1]; exact (Below.refl _ w).alloc (Nat.le_refl _) _
  have k0 : w1.heap[w.heap.size]? = some (.cells #[.int .i64 G, .int .i64 η, .slice A n c] 24 (0, 0)) := by rw [← hw1]; exact allocNew _ _ _ rfl
  obtain ⟨b, off, ha⟩ := ha w1 hB1 (by rw [← hw1]; simp)
  have HCK := Lib.hid hct
  have HK := Lib.hid hk
  have HLN := Lib.hid hln
  have HLM := Lib.hid hlm
  have HX := Lib.hid hx
  have HY := Lib.hid hy
  have HH := Lib.hid hη
  have HA := Lib.hid ha
  have HN1 : Hid (m = 0 ∨ nb0 < w.heap.size ∧ NgAt w nb0 noff ls) := by
    rcases Nat.eq_zero_or_pos m with h | h
    · exact .inl h
    · refine .inr ⟨?_, hN⟩
      have hz := List.getElem?_eq_getElem (l := ls) (i := 0) (by omega)
      exact World.block_lt_of_cell? w ⟨nb0, noff + 0 * 4 + 0, none⟩ (hN 0 _ hz 0 _ rfl)
  have hcr : Hid (Calls Try.prog 4 #[.agg #[.int .i64 G, .int .i64 η, .slice A n c]] w1 fun e w' => e = .returned (.int .i64 0) ∧ Below w1.heap.size w1 w') := by
    have h := ignitionref09_Check.calls _ G η A c la 0 w1 (ha.C' (by omega)) (by omega) hct
    rw [hln] at h
    exact h
  rw [hη, hln, hlm]
  have n6 : decide ((6 : Int) < n) = false := decide_eq_false (by omega)
  have n60 : decide ((60 : Int) < m) = false := decide_eq_false (by omega)
  have t60 : decide ((60 : Int) < T) = false := decide_eq_false (by omega)
  have p0 : w1.cell? ⟨w.heap.size, 0, none⟩ = some (.int .i64 G) := (blk_cell' k0 0).trans rfl
  have p1 : w1.cell? ⟨w.heap.size, 1, none⟩ = some (.int .i64 η) := (blk_cell' k0 1).trans rfl
  have p2 : w1.cell? ⟨w.heap.size, 2, none⟩ = some (.slice A n c) := (blk_cell' k0 2).trans rfl
  have K0 := Lib.hid k0
  clear ha hk hct hln hlm hx hy hη hN k0
  go_enter Try.func3, Try.ntmps3
  go_wp2_with fail
  refine hcr.out.mono ?_
  rintro e w2 ⟨rfl, hB2⟩
  have p0 := pw_cell_below hB2 p0
  have p1 := pw_cell_below hB2 p1
  have p2 := pw_cell_below hB2 p2
  have K0 := Lib.hid ((hB2.block _ (blk_lt' K0.out)).trans K0.out)
  have hB02 : Below w.heap.size w w2 := hB1.trans (hB2.mono hB1.size)
  go_wp2_with fail
  have wnd := wrap_small nd hnd
  have wgp := wrap_small gp hgp
  have wnd' := wrap_small' nd hnd
  have wgp' := wrap_small' gp hgp
  have hB2r : Below w2.heap.size w2 w2 := Below.refl _ _
  refine wp_calm ?_
  refine start_ (n := 11) (S := fun w' => w'.cell? ⟨w.heap.size, 0, none⟩ = some (.int .i64 G)) (ds := []) #[false, false, false, false, false, false, false, false, false, false, false] (by kernel_rfl) rfl rfl (p0) (fun hHeld => ?_)
  refine pure_ (i := 0) (N := some 62) (v := ?_) (a' := ?_) #[true, false, false, false, false, false, false, false, false, false, false] rfl rfl (by kernel_rfl) (fun _ _ _ h => h) (Or.inl ⟨by rfl, ?_⟩) ?_ ?_
  rotate_left
  · intro w'
    go_simp
    with_reducible rfl
  rotate_left
  · simp only [Act.put, List.setIfInBounds_toArray, List.set_cons_zero, List.set_cons_succ, i64_w, i32_w]
    rfl
  refine pure_ (i := 1) (N := some 63) (v := ?_) (a' := ?_) #[true, true, false, false, false, false, false, false, false, false, false] rfl rfl (by kernel_rfl) (fun _ _ _ h => h) (Or.inl ⟨by rfl, ?_⟩) ?_ ?_
  rotate_left
  · intro w'
    go_simp
    with_reducible rfl
  rotate_left
  · simp only [Act.put, List.setIfInBounds_toArray, List.set_cons_zero, List.set_cons_succ, i64_w, i32_w]
    rfl
  refine pure_ (i := 2) (N := some 64) (v := ?_) (a' := ?_) #[true, true, true, false, false, false, false, false, false, false, false] rfl rfl (by kernel_rfl) (fun _ _ _ h => h) (Or.inl ⟨by rfl, ?_⟩) ?_ ?_
  rotate_left
  · intro w'
    go_simp
    with_reducible rfl
  rotate_left
  · simp only [Act.put, List.setIfInBounds_toArray, List.set_cons_zero, List.set_cons_succ, i64_w, i32_w]
    rfl
  refine pure_ (i := 4) (N := some 66) (v := ?_) (a' := ?_) #[true, true, true, false, true, false, false, false, false, false, false] rfl rfl (by kernel_rfl) (fun _ _ _ h => h) (Or.inl ⟨by rfl, ?_⟩) ?_ ?_
  rotate_left
  · intro w'
    go_simp
    with_reducible rfl
  rotate_left
  · simp only [Act.put, List.setIfInBounds_toArray, List.set_cons_zero, List.set_cons_succ, i64_w, i32_w]
    rfl
  refine pure_ (i := 5) (N := some 67) (v := ?_) (a' := ?_) #[true, true, true, false, true, true, false, false, false, false, false] rfl rfl (by kernel_rfl) (fun _ _ _ h => h) (Or.inl ⟨by rfl, ?_⟩) ?_ ?_
  rotate_left
  · intro w'
    go_simp
    with_reducible rfl
  rotate_left
  · simp only [Act.put, List.setIfInBounds_toArray, List.set_cons_zero, List.set_cons_succ, i64_w, i32_w]
    rfl
  refine pure_ (i := 6) (N := some 68) (v := ?_) (a' := ?_) #[true, true, true, false, true, true, true, false, false, false, false] rfl rfl (by kernel_rfl) (fun _ _ _ h => h) (Or.inl ⟨by rfl, ?_⟩) ?_ ?_
  rotate_left
  · intro w'
    go_simp
    with_reducible rfl
  rotate_left
  · simp only [Act.put, List.setIfInBounds_toArray, List.set_cons_zero, List.set_cons_succ, i64_w, i32_w]
    rfl
  refine take_ (i := 7) (N := some 69) (v := ?_) (a' := ?_) #[true, true, true, false, true, true, true, true, false, false, false] rfl rfl (by kernel_rfl) (fun _ _ _ h => h) (Or.inl ⟨by rfl, ?_⟩) hHeld ?_ ?_
  rotate_left
  · intro w' s0
    go_simp
    with_reducible rfl
  rotate_left
  · simp only [Act.put, List.setIfInBounds_toArray, List.set_cons_zero, List.set_cons_succ, i64_w, i32_w]
    rfl
  refine one_ (i := 3) (N := some 65) #[true, true, true, true, true, true, true, true, false, false, false] rfl rfl (by kernel_rfl) (by decide) (fun K hK => ?_)
  refine goes_ Try.func6 (by kernel_rfl) rfl #[.int .i64 0, .int .i64 nd, .int .i64 n] (by rfl) rfl rfl (by simp only [List.map_toArray, List.map_cons, List.map_nil]; rfl) ?_
  with_reducible refine (ignitiontop_around.calls 0 nd n x _ HX.out).mono ?_
  rintro e V3 ⟨rfl, hD3⟩
  refine ⟨_, rfl, ?_⟩
  have hV3 := hD3.below
  refine hK.out _ _ (pw_cell_below hV3 hHeld) (fun hHeld => ?_)
  clear hK K
  refine norm_ (a' := ?_) ?_ ?_
  rotate_left
  · show Act.put _ (some 65) _ = _
    simp only [Act.put, List.setIfInBounds_toArray, List.set_cons_zero, List.set_cons_succ, i64_w, i32_w]
    rfl
  refine one_ (i := 8) (N := some 70) #[true, true, true, true, true, true, true, true, true, false, false] rfl rfl (by kernel_rfl) (by decide) (fun K hK => ?_)
  refine goes_ Try.func6 (by kernel_rfl) rfl #[.int .i64 0, .int .i64 gp, .int .i64 G] (by rfl) rfl rfl (by simp only [List.map_toArray, List.map_cons, List.map_nil]; rfl) ?_
  with_reducible refine (ignitiontop_around.calls 0 gp G y _ HY.out).mono ?_
  rintro e V8 ⟨rfl, hD8⟩
  refine ⟨_, rfl, ?_⟩
  have hV8 := hD8.below
  refine hK.out _ _ (pw_cell_below hV8 hHeld) (fun hHeld => ?_)
  clear hK K
  refine norm_ (a' := ?_) ?_ ?_
  rotate_left
  · show Act.put _ (some 70) _ = _
    simp only [Act.put, List.setIfInBounds_toArray, List.set_cons_zero, List.set_cons_succ, i64_w, i32_w]
    rfl
  refine pure_ (i := 9) (N := some 14) (v := ?_) (a' := ?_) #[true, true, true, true, true, true, true, true, true, true, false] rfl rfl (by kernel_rfl) (fun _ _ _ h => h) (Or.inl ⟨by rfl, ?_⟩) ?_ ?_
  rotate_left
  · intro w'
    go_simp
    with_reducible rfl
  rotate_left
  · simp only [Act.put, List.setIfInBounds_toArray, List.set_cons_zero, List.set_cons_succ, i64_w, i32_w]
    rfl
  refine pure_ (i := 10) (N := some 15) (v := ?_) (a' := ?_) #[true, true, true, true, true, true, true, true, true, true, true] rfl rfl (by kernel_rfl) (fun _ _ _ h => h) (Or.inl ⟨by rfl, ?_⟩) ?_ ?_
  rotate_left
  · intro w'
    go_simp
    with_reducible rfl
  rotate_left
  · simp only [Act.put, List.setIfInBounds_toArray, List.set_cons_zero, List.set_cons_succ, i64_w, i32_w]
    rfl
  refine done_ (by kernel_rfl) ?_
  refine calm_normal ?_
  clear wnd wgp wnd' wgp'
  go_wp2_with fail
  have hB28 : Below w2.heap.size w2 V8 := (hB2r.drew).trans ((hV3.mono (Nat.le_refl _)).trans (hV8.mono hV3.size))
  have hB08 : Below w.heap.size w V8 := hB02.trans (hB28.mono hB02.size)
  have K0 := Lib.hid ((hB28.block _ (blk_lt' K0.out)).trans K0.out)
  have p0 : V8.cell? ⟨w.heap.size, 0, none⟩ = some (.int .i64 G) := (blk_cell' K0.out 0).trans rfl
  have p1 : V8.cell? ⟨w.heap.size, 1, none⟩ = some (.int .i64 η) := (blk_cell' K0.out 1).trans rfl
  have p2 : V8.cell? ⟨w.heap.size, 2, none⟩ = some (.slice A n c) := (blk_cell' K0.out 2).trans rfl
  have HA8 : Hid (ClAt V8 A b off la) := HA.out.below (hB2.trans (hB28.mono hB2.size)) HA.out.bb
  have HL5 : Hid ((la.flatMap scells).length = n * 5) := by rw [← HLN.out]; exact flat_len scells_len la
  have HAn : 0 < n → A = some ⟨b, off, none⟩ := fun h => HA8.out.hA (by rw [HLN.out]; exact h)
  clear hB2 hB2r hV3 hV8 hD3 hD8 hB1 hw1
  refine wp_calm ?_
  refine start_ (n := 11) (S := fun w' => w'.cell? ⟨w.heap.size, 0, none⟩ = some (.int .i64 G) ∧ w'.cell? ⟨w.heap.size, 1, none⟩ = some (.int .i64 η) ∧ w'.cell? ⟨w.heap.size, 2, none⟩ = some (.slice A n c)) (ds := [10]) #[false, false, false, false, false, false, false, false, false, false, false] (by kernel_rfl) rfl rfl ⟨p0, p1, p2⟩ (fun hHeld => ?_)
  refine pure_ (i := 0) (N := some 71) (v := ?_) (a' := ?_) #[true, false, false, false, false, false, false, false, false, false, false] rfl rfl (by kernel_rfl) (fun _ _ _ h => h) (Or.inl ⟨by rfl, ?_⟩) ?_ ?_
  rotate_left
  · intro w'
    go_simp
    with_reducible rfl
  rotate_left
  · simp only [Act.put, List.setIfInBounds_toArray, List.set_cons_zero, List.set_cons_succ, i64_w, i32_w]
    rfl
  refine pure_ (i := 2) (N := some 73) (v := ?_) (a' := ?_) #[true, false, true, false, false, false, false, false, false, false, false] rfl rfl (by kernel_rfl) (fun _ _ _ h => h) (Or.inl ⟨by rfl, ?_⟩) ?_ ?_
  rotate_left
  · intro w'
    go_simp
    with_reducible rfl
  rotate_left
  · simp only [Act.put, List.setIfInBounds_toArray, List.set_cons_zero, List.set_cons_succ, i64_w, i32_w]
    rfl
  refine pure_ (i := 5) (N := some 76) (v := ?_) (a' := ?_) #[true, false, true, false, false, true, false, false, false, false, false] rfl rfl (by kernel_rfl) (fun _ _ _ h => h) (Or.inl ⟨by rfl, ?_⟩) ?_ ?_
  rotate_left
  · intro w'
    go_simp
    with_reducible rfl
  rotate_left
  · simp only [Act.put, List.setIfInBounds_toArray, List.set_cons_zero, List.set_cons_succ, i64_w, i32_w]
    rfl
  refine take_ (i := 1) (N := some 72) (v := ?_) (a' := ?_) #[true, true, true, false, false, true, false, false, false, false, false] rfl rfl (by kernel_rfl) (fun _ _ _ h => h) (Or.inl ⟨by rfl, ?_⟩) hHeld ?_ ?_
  rotate_left
  · rintro w' ⟨s0, s1, s2⟩
    go_simp
    with_reducible rfl
  rotate_left
  · simp only [Act.put, List.setIfInBounds_toArray, List.set_cons_zero, List.set_cons_succ, i64_w, i32_w]
    rfl
  refine take_ (i := 3) (N := some 74) (v := ?_) (a' := ?_) #[true, true, true, true, false, true, false, false, false, false, false] rfl rfl (by kernel_rfl) (fun _ _ _ h => h) (Or.inl ⟨by rfl, ?_⟩) hHeld ?_ ?_
  rotate_left
  · rintro w' ⟨s0, s1, s2⟩
    go_simp
    with_reducible rfl
  rotate_left
  · simp only [Act.put, List.setIfInBounds_toArray, List.set_cons_zero, List.set_cons_succ, i64_w, i32_w]
    rfl
  refine take_ (i := 6) (N := some 77) (v := ?_) (a' := ?_) #[true, true, true, true, false, true, true, false, false, false, false] rfl rfl (by kernel_rfl) (fun _ _ _ h => h) (Or.inl ⟨by rfl, ?_⟩) hHeld ?_ ?_
  rotate_left
  · rintro w' ⟨s0, s1, s2⟩
    go_simp
    with_reducible rfl
  rotate_left
  · simp only [Act.put, List.setIfInBounds_toArray, List.set_cons_zero, List.set_cons_succ, i64_w, i32_w]
    rfl
  refine join_ (σ := Nat × Nat × Nat × Nat) 1 #[true, true, true, true, true, true, true, true, true, true, false] (fun s => [(75, .slice (some ⟨s.1, 0, none⟩) 0 0), (78, .slice (some ⟨s.2.1, 0, none⟩) n s.2.2.1), (79, .agg #[.int .i64 G, .int .i64 η, .slice (some ⟨s.2.1, 0, none⟩) n s.2.2.1]), (16, .pointer (some ⟨s.2.2.2, 0, none⟩))]) (fun s w' => (w'.cell? ⟨w.heap.size, 0, none⟩ = some (.int .i64 G) ∧ w'.cell? ⟨w.heap.size, 1, none⟩ = some (.int .i64 η) ∧ w'.cell? ⟨w.heap.size, 2, none⟩ = some (.slice A n c)) ∧ Below V8.heap.size V8 w' ∧ w'.heap[s.2.2.2]? = some (.cells #[.int .i64 0, .int .i64 0, .slice none 0 0] 24 (0, 0)) ∧ w'.ownsRow V8.heap.size 31 5 (.slice (some ⟨s.2.1, 0, none⟩) n s.2.2.1) n (la.flatMap scells) ∧ n ≤ s.2.2.1 ∧ s.2.2.2 ≠ s.2.1 ∧ V8.heap.size ≤ s.2.2.2) ?_ ?_
  rotate_left
  · intro hCont
    refine two_ (i := 4) (j := 9) (Ni := some 75) (Nj := some 16) #[true, true, true, true, true, true, true, false, false, false, false] #[true, true, true, true, false, true, true, false, false, true, false] rfl rfl rfl rfl (by kernel_rfl) (by decide) (by decide) (fun K hK => ?_) (fun K hK => ?_)
    · skip
      refine value_ (w1 := ?_) (v := ?_) (by rfl) rfl ?_ ?_
      rotate_left 2
      · go_simp
        constructor
        · rfl
        · rfl
      obtain ⟨X0, hV⟩ : ∃ V, (V8.alloc (.cells #[] 31)).drew = V := ⟨_, rfl⟩
      rw [hV]
      have hz0 : V8.heap.size < X0.heap.size := by rw [← hV]; simp
      have ho : X0.ownsRow V8.heap.size 31 5 (.slice (some ⟨V8.heap.size, 0, none⟩) 0 0) 0 [] := by rw [← hV]; exact World.ownsRow_lit (base := V8.heap.size) (e := 31) (size := 5) V8 #[] 0 (Nat.le_refl _) (by decide) rfl
      have hb : Below V8.heap.size V8 X0 := by rw [← hV]; exact ((Below.refl _ V8).alloc (Nat.le_refl _) _).drew
      clear hV
      refine hK.out _ _ ⟨pw_cell_below hb p0, pw_cell_below hb p1, pw_cell_below hb p2⟩ (fun hHeld => ?_)
      clear hK K
      refine norm_ (a' := ?_) ?_ ?_
      rotate_left
      · show Act.put _ (some 75) _ = _
        simp only [Act.put, List.setIfInBounds_toArray, List.set_cons_zero, List.set_cons_succ, i64_w, i32_w]
        rfl
      refine two_ (i := 7) (j := 9) (Ni := some 78) (Nj := some 16) #[true, true, true, true, true, true, true, true, false, false, false] #[true, true, true, true, true, true, true, false, false, true, false] rfl rfl rfl rfl (by kernel_rfl) (by decide) (by decide) (fun K hK => ?_) (fun K hK => ?_)
      · skip
        refine step_append_row (by rfl) _ _ V8.heap.size 22 31 _ 5 40 rfl Try.underlying22 info31 rfl (by decide) (by decide) (V8.heap.size) A ⟨b, off, none⟩ n c (la.flatMap scells) rfl rfl HL5.out HAn (HA8.out.below hb HA8.out.bb).flat (flat_one scells_one la) ho hb.size (by omega) ?_
        intro g1 cap1 X1 hown hle1 hgr hat
        have hzb := hb.size
        have hb : Below V8.heap.size V8 X1 := hb.grown hgr hb.size (fun k e => by cases e; omega)
        refine hK.out _ _ ⟨pw_cell_below hb p0, pw_cell_below hb p1, pw_cell_below hb p2⟩ (fun hHeld => ?_)
        clear hK K
        refine norm_ (a' := ?_) ?_ ?_
        rotate_left
        · show Act.put _ (some 78) _ = _
          simp only [Act.put, List.setIfInBounds_toArray, List.set_cons_zero, List.set_cons_succ, i64_w, i32_w]
          rfl
        refine pure_ (i := 8) (N := some 79) (v := ?_) (a' := ?_) #[true, true, true, true, true, true, true, true, true, false, false] rfl rfl (by kernel_rfl) (fun _ _ _ h => h) (Or.inl ⟨by rfl, ?_⟩) ?_ ?_
        rotate_left
        · intro w'
          go_simp
          with_reducible rfl
        rotate_left
        · simp only [Act.put, List.setIfInBounds_toArray, List.set_cons_zero, List.set_cons_succ, i64_w, i32_w]
          rfl
        refine one_ (i := 9) (N := some 16) #[true, true, true, true, true, true, true, true, true, true, false] rfl rfl (by kernel_rfl) (by decide) (fun K hK => ?_)
        refine value_ (w1 := ?_) (v := ?_) (by rfl) rfl ?_ ?_
        rotate_left 2
        · go_simp
          constructor
          · rfl
          · rfl
        obtain ⟨X2, hV⟩ : ∃ V, X1.alloc (.cells #[.int .i64 0, .int .i64 0, .slice none 0 0] 24) = V := ⟨_, rfl⟩
        rw [hV]
        have hz2 : X1.heap.size < X2.heap.size := by rw [← hV]; simp
        have ha : X2.heap[X1.heap.size]? = some (.cells #[.int .i64 0, .int .i64 0, .slice none 0 0] 24 (0, 0)) := by rw [← hV]; exact allocNew _ _ _ rfl
        have hlt1 : g1 < X1.heap.size := (World.ownsRow.lt hown _ rfl).2
        have hne : X1.heap.size ≠ g1 := by omega
        have hown := by have h := hown.alloc (.cells #[.int .i64 0, .int .i64 0, .slice none 0 0] 24); rw [hV] at h; exact h
        have hb : Below V8.heap.size V8 X2 := by rw [← hV]; exact hb.alloc hb.size _
        clear hV
        refine hK.out _ _ ⟨pw_cell_below hb p0, pw_cell_below hb p1, pw_cell_below hb p2⟩ (fun hHeld => ?_)
        clear hK K
        refine norm_ (a' := ?_) ?_ ?_
        rotate_left
        · show Act.put _ (some 16) _ = _
          simp only [Act.put, List.setIfInBounds_toArray, List.set_cons_zero, List.set_cons_succ, i64_w, i32_w]
          rfl
        exact norm_ (by first | (simp only [putAll, Act.put, List.setIfInBounds_toArray, List.set_cons_zero, List.set_cons_succ]; done) | (simp only [putAll, Act.put, List.setIfInBounds_toArray, List.set_cons_zero, List.set_cons_succ]; rfl)) (hCont (V8.heap.size, g1, cap1, X1.heap.size) _ ⟨hHeld, hb, ha, hown, hle1, hne, by first | exact Nat.le_refl _ | (dsimp only; omega)⟩)
      · skip
        refine value_ (w1 := ?_) (v := ?_) (by rfl) rfl ?_ ?_
        rotate_left 2
        · go_simp
          constructor
          · rfl
          · rfl
        obtain ⟨X1, hV⟩ : ∃ V, X0.alloc (.cells #[.int .i64 0, .int .i64 0, .slice none 0 0] 24) = V := ⟨_, rfl⟩
        rw [hV]
        have hz1 : X0.heap.size < X1.heap.size := by rw [← hV]; simp
        have ha : X1.heap[X0.heap.size]? = some (.cells #[.int .i64 0, .int .i64 0, .slice none 0 0] 24 (0, 0)) := by rw [← hV]; exact allocNew _ _ _ rfl
        have ho := by have h := ho.alloc (.cells #[.int .i64 0, .int .i64 0, .slice none 0 0] 24); rw [hV] at h; exact h
        have hb : Below V8.heap.size V8 X1 := by rw [← hV]; exact hb.alloc hb.size _
        clear hV
        refine hK.out _ _ ⟨pw_cell_below hb p0, pw_cell_below hb p1, pw_cell_below hb p2⟩ (fun hHeld => ?_)
        clear hK K
        refine norm_ (a' := ?_) ?_ ?_
        rotate_left
        · show Act.put _ (some 16) _ = _
          simp only [Act.put, List.setIfInBounds_toArray, List.set_cons_zero, List.set_cons_succ, i64_w, i32_w]
          rfl
        refine one_ (i := 7) (N := some 78) #[true, true, true, true, true, true, true, true, false, true, false] rfl rfl (by kernel_rfl) (by decide) (fun K hK => ?_)
        refine step_append_row (by rfl) _ _ V8.heap.size 22 31 _ 5 40 rfl Try.underlying22 info31 rfl (by decide) (by decide) (V8.heap.size) A ⟨b, off, none⟩ n c (la.flatMap scells) rfl rfl HL5.out HAn (HA8.out.below hb HA8.out.bb).flat (flat_one scells_one la) ho hb.size (by omega) ?_
        intro g1 cap1 X2 hown hle1 hgr hat
        have hlt := blk_lt' ha
        have hn0 : X0.heap.size ≠ V8.heap.size := by omega
        have hne : X0.heap.size ≠ g1 := by omega
        have ha := (hgr.block _ hlt (fun e => hn0 (Option.some.inj e))).trans ha
        have hzb := hb.size
        have hb : Below V8.heap.size V8 X2 := hb.grown hgr hb.size (fun k e => by cases e; omega)
        refine hK.out _ _ ⟨pw_cell_below hb p0, pw_cell_below hb p1, pw_cell_below hb p2⟩ (fun hHeld => ?_)
        clear hK K
        refine norm_ (a' := ?_) ?_ ?_
        rotate_left
        · show Act.put _ (some 78) _ = _
          simp only [Act.put, List.setIfInBounds_toArray, List.set_cons_zero, List.set_cons_succ, i64_w, i32_w]
          rfl
        refine pure_ (i := 8) (N := some 79) (v := ?_) (a' := ?_) #[true, true, true, true, true, true, true, true, true, true, false] rfl rfl (by kernel_rfl) (fun _ _ _ h => h) (Or.inl ⟨by rfl, ?_⟩) ?_ ?_
        rotate_left
        · intro w'
          go_simp
          with_reducible rfl
        rotate_left
        · simp only [Act.put, List.setIfInBounds_toArray, List.set_cons_zero, List.set_cons_succ, i64_w, i32_w]
          rfl
        exact norm_ (by first | (simp only [putAll, Act.put, List.setIfInBounds_toArray, List.set_cons_zero, List.set_cons_succ]; done) | (simp only [putAll, Act.put, List.setIfInBounds_toArray, List.set_cons_zero, List.set_cons_succ]; rfl)) (hCont (V8.heap.size, g1, cap1, X0.heap.size) _ ⟨hHeld, hb, ha, hown, hle1, hne, by first | exact Nat.le_refl _ | (dsimp only; omega)⟩)
    · skip
      refine value_ (w1 := ?_) (v := ?_) (by rfl) rfl ?_ ?_
      rotate_left 2
      · go_simp
        constructor
        · rfl
        · rfl
      obtain ⟨X0, hV⟩ : ∃ V, (V8.alloc (.cells #[.int .i64 0, .int .i64 0, .slice none 0 0] 24)).drew = V := ⟨_, rfl⟩
      rw [hV]
      have hz0 : V8.heap.size < X0.heap.size := by rw [← hV]; simp
      have ha : X0.heap[V8.heap.size]? = some (.cells #[.int .i64 0, .int .i64 0, .slice none 0 0] 24 (0, 0)) := by rw [← hV]; exact allocNew _ _ _ rfl
      have hb : Below V8.heap.size V8 X0 := by rw [← hV]; exact ((Below.refl _ V8).alloc (Nat.le_refl _) _).drew
      clear hV
      refine hK.out _ _ ⟨pw_cell_below hb p0, pw_cell_below hb p1, pw_cell_below hb p2⟩ (fun hHeld => ?_)
      clear hK K
      refine norm_ (a' := ?_) ?_ ?_
      rotate_left
      · show Act.put _ (some 16) _ = _
        simp only [Act.put, List.setIfInBounds_toArray, List.set_cons_zero, List.set_cons_succ, i64_w, i32_w]
        rfl
      refine one_ (i := 4) (N := some 75) #[true, true, true, true, true, true, true, false, false, true, false] rfl rfl (by kernel_rfl) (by decide) (fun K hK => ?_)
      refine value_ (w1 := ?_) (v := ?_) (by rfl) rfl ?_ ?_
      rotate_left 2
      · go_simp
        constructor
        · rfl
        · rfl
      obtain ⟨X1, hV⟩ : ∃ V, X0.alloc (.cells #[] 31) = V := ⟨_, rfl⟩
      rw [hV]
      have hz1 : X0.heap.size < X1.heap.size := by rw [← hV]; simp
      have ho : X1.ownsRow V8.heap.size 31 5 (.slice (some ⟨X0.heap.size, 0, none⟩) 0 0) 0 [] := by rw [← hV]; exact World.ownsRow_lit (base := V8.heap.size) (e := 31) (size := 5) X0 #[] 0 hb.size (by decide) rfl
      have ha := by have h := allocOld ha (.cells #[] 31); rw [hV] at h; exact h
      have hb : Below V8.heap.size V8 X1 := by rw [← hV]; exact hb.alloc hb.size _
      clear hV
      refine hK.out _ _ ⟨pw_cell_below hb p0, pw_cell_below hb p1, pw_cell_below hb p2⟩ (fun hHeld => ?_)
      clear hK K
      refine norm_ (a' := ?_) ?_ ?_
      rotate_left
      · show Act.put _ (some 75) _ = _
        simp only [Act.put, List.setIfInBounds_toArray, List.set_cons_zero, List.set_cons_succ, i64_w, i32_w]
        rfl
      refine one_ (i := 7) (N := some 78) #[true, true, true, true, true, true, true, true, false, true, false] rfl rfl (by kernel_rfl) (by decide) (fun K hK => ?_)
      refine step_append_row (by rfl) _ _ V8.heap.size 22 31 _ 5 40 rfl Try.underlying22 info31 rfl (by decide) (by decide) (X0.heap.size) A ⟨b, off, none⟩ n c (la.flatMap scells) rfl rfl HL5.out HAn (HA8.out.below hb HA8.out.bb).flat (flat_one scells_one la) ho hb.size (by omega) ?_
      intro g1 cap1 X2 hown hle1 hgr hat
      have hlt := blk_lt' ha
      have hn0 : V8.heap.size ≠ X0.heap.size := by omega
      have hne : V8.heap.size ≠ g1 := by omega
      have ha := (hgr.block _ hlt (fun e => hn0 (Option.some.inj e))).trans ha
      have hzb := hb.size
      have hb : Below V8.heap.size V8 X2 := hb.grown hgr hb.size (fun k e => by cases e; omega)
      refine hK.out _ _ ⟨pw_cell_below hb p0, pw_cell_below hb p1, pw_cell_below hb p2⟩ (fun hHeld => ?_)
      clear hK K
      refine norm_ (a' := ?_) ?_ ?_
      rotate_left
      · show Act.put _ (some 78) _ = _
        simp only [Act.put, List.setIfInBounds_toArray, List.set_cons_zero, List.set_cons_succ, i64_w, i32_w]
        rfl
      refine pure_ (i := 8) (N := some 79) (v := ?_) (a' := ?_) #[true, true, true, true, true, true, true, true, true, true, false] rfl rfl (by kernel_rfl) (fun _ _ _ h => h) (Or.inl ⟨by rfl, ?_⟩) ?_ ?_
      rotate_left
      · intro w'
        go_simp
        with_reducible rfl
      rotate_left
      · simp only [Act.put, List.setIfInBounds_toArray, List.set_cons_zero, List.set_cons_succ, i64_w, i32_w]
        rfl
      exact norm_ (by first | (simp only [putAll, Act.put, List.setIfInBounds_toArray, List.set_cons_zero, List.set_cons_succ]; done) | (simp only [putAll, Act.put, List.setIfInBounds_toArray, List.set_cons_zero, List.set_cons_succ]; rfl)) (hCont (X0.heap.size, g1, cap1, V8.heap.size) _ ⟨hHeld, hb, ha, hown, hle1, hne, by first | exact Nat.le_refl _ | (dsimp only; omega)⟩)
  rintro ⟨g0, g1, cap1, a1⟩ w3 ⟨hHeld, hb, ha, hown, hle1, hne, hge1⟩
  dsimp only at ha hown hle1 hne hge1 ⊢
  have e0 : w3.cell? ⟨a1, 0, none⟩ = some (.int .i64 0) := (blk_cell' ha 0).trans rfl
  have e1 : w3.cell? ⟨a1, 1, none⟩ = some (.int .i64 0) := (blk_cell' ha 1).trans rfl
  have e2 : w3.cell? ⟨a1, 2, none⟩ = some (.slice none 0 0) := (blk_cell' ha 2).trans rfl
  have e3 : ∀ i, w3.frozen? ⟨a1, i, none⟩ = false := fun i => blk_frozen' ha i
  refine norm_ (a' := ?_) ?_ ?_
  rotate_left
  · simp only [putAll, Act.put, List.setIfInBounds_toArray, List.set_cons_zero, List.set_cons_succ]
    rfl
  refine last_ (i := 10) (N := none) #[true, true, true, true, true, true, true, true, true, true, true] rfl rfl (by kernel_rfl) (by decide) (fun K hK => ?_)
  refine skip_ (w1 := ?_) (by rfl) rfl ?_ ?_
  rotate_left
  · go_simp
    rfl
  refine hK.out _ _ ?_
  clear hK K
  refine done_ (by kernel_rfl) ?_
  refine calm_normal ?_
  go_wp2_with fail
  obtain ⟨w4, hw4⟩ : ∃ w4, ((w3.setCell ⟨a1, 0, none⟩ (.int .i64 G)).setCell ⟨a1, 1, none⟩ (.int .i64 η)).setCell ⟨a1, 2, none⟩ (.slice (some ⟨g1, 0, none⟩) n cap1) = w4 := ⟨_, rfl⟩
  have KA : Hid (w4.heap[a1]? = some (.cells #[.int .i64 G, .int .i64 η, .slice (some ⟨g1, 0, none⟩) n cap1] 24 (0, 0))) := by
    rw [← hw4]
    have h1 := heap_setCell_same _ _ 0 _ _ (.int .i64 G) ha
    have h2 := heap_setCell_same _ _ 1 _ _ (.int .i64 η) h1
    exact heap_setCell_same _ _ 2 _ _ (.slice (some ⟨g1, 0, none⟩) n cap1) h2
  have hB84 : Below V8.heap.size V8 w4 := by rw [← hw4]; exact ((hb.setCell hge1 _).setCell hge1 _).setCell hge1 _
  have CLA : Hid (ClAt w4 (some ⟨g1, 0, none⟩) g1 0 la) := by
    have h := cl_of_own (l := la) (by rw [HLN.out]; exact hown)
    rw [← hw4]
    refine h.keep ?_ (by simp [World.setCell])
    exact (Below.heap_setCell _ _ _ _ hne.symm).trans ((Below.heap_setCell _ _ _ _ hne.symm).trans (Below.heap_setCell _ _ _ _ hne.symm))
  rw [hw4]
  have hB04 : Below w.heap.size w w4 := hB08.trans (hB84.mono hB08.size)
  have K0 := Lib.hid ((hB84.block _ (blk_lt' K0.out)).trans K0.out)
  have K04 := K0
  have CLA4 := CLA
  have ha1lt := blk_lt' KA.out
  have q0 : w4.cell? ⟨w.heap.size, 0, none⟩ = some (.int .i64 G) := (blk_cell' K0.out 0).trans rfl
  have q1 : w4.cell? ⟨w.heap.size, 1, none⟩ = some (.int .i64 η) := (blk_cell' K0.out 1).trans rfl
  clear hw4 e0 e1 e2 e3 ha hown hb hHeld p0 p1 p2 HAn HL5 hge1 hne
  refine wp_calm ?_
  refine start_ (n := 9) (S := fun w' => w'.cell? ⟨w.heap.size, 0, none⟩ = some (.int .i64 G) ∧ w'.cell? ⟨w.heap.size, 1, none⟩ = some (.int .i64 η)) (ds := [8]) #[false, false, false, false, false, false, false, false, false] (by kernel_rfl) rfl rfl ⟨q0, q1⟩ (fun hHeld => ?_)
  refine pure_ (i := 0) (N := some 80) (v := ?_) (a' := ?_) #[true, false, false, false, false, false, false, false, false] rfl rfl (by kernel_rfl) (fun _ _ _ h => h) (Or.inl ⟨by rfl, ?_⟩) ?_ ?_
  rotate_left
  · intro w'
    go_simp
    with_reducible rfl
  rotate_left
  · simp only [Act.put, List.setIfInBounds_toArray, List.set_cons_zero, List.set_cons_succ, i64_w, i32_w]
    rfl
  refine pure_ (i := 2) (N := some 82) (v := ?_) (a' := ?_) #[true, false, true, false, false, false, false, false, false] rfl rfl (by kernel_rfl) (fun _ _ _ h => h) (Or.inl ⟨by rfl, ?_⟩) ?_ ?_
  rotate_left
  · intro w'
    go_simp
    with_reducible rfl
  rotate_left
  · simp only [Act.put, List.setIfInBounds_toArray, List.set_cons_zero, List.set_cons_succ, i64_w, i32_w]
    rfl
  refine pure_ (i := 4) (N := some 84) (v := ?_) (a' := ?_) #[true, false, true, false, true, false, false, false, false] rfl rfl (by kernel_rfl) (fun _ _ _ h => h) (Or.inl ⟨by rfl, ?_⟩) ?_ ?_
  rotate_left
  · intro w'
    go_simp
    with_reducible rfl
  rotate_left
  · simp only [Act.put, List.setIfInBounds_toArray, List.set_cons_zero, List.set_cons_succ, i64_w, i32_w]
    rfl
  refine take_ (i := 1) (N := some 81) (v := ?_) (a' := ?_) #[true, true, true, false, true, false, false, false, false] rfl rfl (by kernel_rfl) (fun _ _ _ h => h) (Or.inl ⟨by rfl, ?_⟩) hHeld ?_ ?_
  rotate_left
  · rintro w' ⟨s0, s1⟩
    go_simp
    with_reducible rfl
  rotate_left
  · simp only [Act.put, List.setIfInBounds_toArray, List.set_cons_zero, List.set_cons_succ, i64_w, i32_w]
    rfl
  refine take_ (i := 3) (N := some 83) (v := ?_) (a' := ?_) #[true, true, true, true, true, false, false, false, false] rfl rfl (by kernel_rfl) (fun _ _ _ h => h) (Or.inl ⟨by rfl, ?_⟩) hHeld ?_ ?_
  rotate_left
  · rintro w' ⟨s0, s1⟩
    go_simp
    with_reducible rfl
  rotate_left
  · simp only [Act.put, List.setIfInBounds_toArray, List.set_cons_zero, List.set_cons_succ, i64_w, i32_w]
    rfl
  refine join_ (σ := Nat × Nat) 1 #[true, true, true, true, true, true, true, true, false] (fun s => [(85, .slice (some ⟨s.1, 0, none⟩) n n), (86, .agg #[.int .i64 G, .int .i64 η, .slice (some ⟨s.1, 0, none⟩) n n]), (17, .pointer (some ⟨s.2, 0, none⟩))]) (fun s w' => (w'.cell? ⟨w.heap.size, 0, none⟩ = some (.int .i64 G) ∧ w'.cell? ⟨w.heap.size, 1, none⟩ = some (.int .i64 η)) ∧ Below w4.heap.size w4 w' ∧ w'.heap[s.2]? = some (.cells #[.int .i64 0, .int .i64 0, .slice none 0 0] 24 (0, 0)) ∧ w'.heap[s.1]? = some (.cells (madeCells (Value.agg #[.int .i64 0, .int .i64 0, .int .i64 0, .int .i64 0, .int .i64 0]).cells (n * 5)) 31 (0, 0)) ∧ w4.heap.size ≤ s.1 ∧ w4.heap.size ≤ s.2 ∧ s.1 ≠ s.2) ?_ ?_
  rotate_left
  · intro hCont
    refine two_ (i := 5) (j := 7) (Ni := some 85) (Nj := some 17) #[true, true, true, true, true, true, false, false, false] #[true, true, true, true, true, false, false, true, false] rfl rfl rfl rfl (by kernel_rfl) (by decide) (by decide) (fun K hK => ?_) (fun K hK => ?_)
    · skip
      refine step_make_row (by rfl) 22 31 _ _ rfl _ 5 40 n rfl rfl Try.underlying22 info31 (by omega) (by decide) ?_
      obtain ⟨Y0, hV⟩ : ∃ V, (w4.alloc (.cells (madeCells (Value.agg #[.int .i64 0, .int .i64 0, .int .i64 0, .int .i64 0, .int .i64 0]).cells (n * 5)) 31)).drew = V := ⟨_, rfl⟩
      rw [show (w4.drew.alloc (.cells (madeCells (Value.agg #[.int .i64 0, .int .i64 0, .int .i64 0, .int .i64 0, .int .i64 0]).cells (n * 5)) 31)) = Y0 from hV]
      have hz0 : w4.heap.size < Y0.heap.size := by rw [← hV]; simp
      have hgb : Y0.heap[w4.heap.size]? = some (.cells (madeCells (Value.agg #[.int .i64 0, .int .i64 0, .int .i64 0, .int .i64 0, .int .i64 0]).cells (n * 5)) 31 (0, 0)) := by rw [← hV]; exact allocNew _ _ _ rfl
      have hb : Below w4.heap.size w4 Y0 := by rw [← hV]; exact ((Below.refl _ w4).alloc (Nat.le_refl _) _).drew
      clear hV
      refine hK.out _ _ ⟨pw_cell_below hb q0, pw_cell_below hb q1⟩ (fun hHeld => ?_)
      clear hK K
      refine norm_ (a' := ?_) ?_ ?_
      rotate_left
      · show Act.put _ (some 85) _ = _
        simp only [Act.put, List.setIfInBounds_toArray, List.set_cons_zero, List.set_cons_succ, i64_w, i32_w]
        rfl
      refine pure_ (i := 6) (N := some 86) (v := ?_) (a' := ?_) #[true, true, true, true, true, true, true, false, false] rfl rfl (by kernel_rfl) (fun _ _ _ h => h) (Or.inl ⟨by rfl, ?_⟩) ?_ ?_
      rotate_left
      · intro w'
        go_simp
        with_reducible rfl
      rotate_left
      · simp only [Act.put, List.setIfInBounds_toArray, List.set_cons_zero, List.set_cons_succ, i64_w, i32_w]
        rfl
      refine one_ (i := 7) (N := some 17) #[true, true, true, true, true, true, true, true, false] rfl rfl (by kernel_rfl) (by decide) (fun K hK => ?_)
      refine value_ (w1 := ?_) (v := ?_) (by rfl) rfl ?_ ?_
      rotate_left 2
      · go_simp
        constructor
        · rfl
        · rfl
      obtain ⟨Y1, hV⟩ : ∃ V, Y0.alloc (.cells #[.int .i64 0, .int .i64 0, .slice none 0 0] 24) = V := ⟨_, rfl⟩
      rw [hV]
      have hz1 : Y0.heap.size < Y1.heap.size := by rw [← hV]; simp
      have ha : Y1.heap[Y0.heap.size]? = some (.cells #[.int .i64 0, .int .i64 0, .slice none 0 0] 24 (0, 0)) := by rw [← hV]; exact allocNew _ _ _ rfl
      have hgb := by have h := allocOld hgb (.cells #[.int .i64 0, .int .i64 0, .slice none 0 0] 24); rw [hV] at h; exact h
      have hb : Below w4.heap.size w4 Y1 := by rw [← hV]; exact hb.alloc hb.size _
      clear hV
      refine hK.out _ _ ⟨pw_cell_below hb q0, pw_cell_below hb q1⟩ (fun hHeld => ?_)
      clear hK K
      refine norm_ (a' := ?_) ?_ ?_
      rotate_left
      · show Act.put _ (some 17) _ = _
        simp only [Act.put, List.setIfInBounds_toArray, List.set_cons_zero, List.set_cons_succ, i64_w, i32_w]
        rfl
      exact norm_ (by first | (simp only [putAll, Act.put, List.setIfInBounds_toArray, List.set_cons_zero, List.set_cons_succ]; done) | (simp only [putAll, Act.put, List.setIfInBounds_toArray, List.set_cons_zero, List.set_cons_succ]; rfl)) (hCont (w4.heap.size, Y0.heap.size) _ ⟨hHeld, hb, ha, hgb, by dsimp only; omega, by dsimp only; omega, by dsimp only; omega⟩)
    · skip
      refine value_ (w1 := ?_) (v := ?_) (by rfl) rfl ?_ ?_
      rotate_left 2
      · go_simp
        constructor
        · rfl
        · rfl
      obtain ⟨Y0, hV⟩ : ∃ V, (w4.alloc (.cells #[.int .i64 0, .int .i64 0, .slice none 0 0] 24)).drew = V := ⟨_, rfl⟩
      rw [hV]
      have hz0 : w4.heap.size < Y0.heap.size := by rw [← hV]; simp
      have ha : Y0.heap[w4.heap.size]? = some (.cells #[.int .i64 0, .int .i64 0, .slice none 0 0] 24 (0, 0)) := by rw [← hV]; exact allocNew _ _ _ rfl
      have hb : Below w4.heap.size w4 Y0 := by rw [← hV]; exact ((Below.refl _ w4).alloc (Nat.le_refl _) _).drew
      clear hV
      refine hK.out _ _ ⟨pw_cell_below hb q0, pw_cell_below hb q1⟩ (fun hHeld => ?_)
      clear hK K
      refine norm_ (a' := ?_) ?_ ?_
      rotate_left
      · show Act.put _ (some 17) _ = _
        simp only [Act.put, List.setIfInBounds_toArray, List.set_cons_zero, List.set_cons_succ, i64_w, i32_w]
        rfl
      refine one_ (i := 5) (N := some 85) #[true, true, true, true, true, true, false, true, false] rfl rfl (by kernel_rfl) (by decide) (fun K hK => ?_)
      refine step_make_row (by rfl) 22 31 _ _ rfl _ 5 40 n rfl rfl Try.underlying22 info31 (by omega) (by decide) ?_
      obtain ⟨Y1, hV⟩ : ∃ V, Y0.alloc (.cells (madeCells (Value.agg #[.int .i64 0, .int .i64 0, .int .i64 0, .int .i64 0, .int .i64 0]).cells (n * 5)) 31) = V := ⟨_, rfl⟩
      rw [hV]
      have hz1 : Y0.heap.size < Y1.heap.size := by rw [← hV]; simp
      have hgb : Y1.heap[Y0.heap.size]? = some (.cells (madeCells (Value.agg #[.int .i64 0, .int .i64 0, .int .i64 0, .int .i64 0, .int .i64 0]).cells (n * 5)) 31 (0, 0)) := by rw [← hV]; exact allocNew _ _ _ rfl
      have ha := by have h := allocOld ha (.cells (madeCells (Value.agg #[.int .i64 0, .int .i64 0, .int .i64 0, .int .i64 0, .int .i64 0]).cells (n * 5)) 31); rw [hV] at h; exact h
      have hb : Below w4.heap.size w4 Y1 := by rw [← hV]; exact hb.alloc hb.size _
      clear hV
      refine hK.out _ _ ⟨pw_cell_below hb q0, pw_cell_below hb q1⟩ (fun hHeld => ?_)
      clear hK K
      refine norm_ (a' := ?_) ?_ ?_
      rotate_left
      · show Act.put _ (some 85) _ = _
        simp only [Act.put, List.setIfInBounds_toArray, List.set_cons_zero, List.set_cons_succ, i64_w, i32_w]
        rfl
      refine pure_ (i := 6) (N := some 86) (v := ?_) (a' := ?_) #[true, true, true, true, true, true, true, true, false] rfl rfl (by kernel_rfl) (fun _ _ _ h => h) (Or.inl ⟨by rfl, ?_⟩) ?_ ?_
      rotate_left
      · intro w'
        go_simp
        with_reducible rfl
      rotate_left
      · simp only [Act.put, List.setIfInBounds_toArray, List.set_cons_zero, List.set_cons_succ, i64_w, i32_w]
        rfl
      exact norm_ (by first | (simp only [putAll, Act.put, List.setIfInBounds_toArray, List.set_cons_zero, List.set_cons_succ]; done) | (simp only [putAll, Act.put, List.setIfInBounds_toArray, List.set_cons_zero, List.set_cons_succ]; rfl)) (hCont (Y0.heap.size, w4.heap.size) _ ⟨hHeld, hb, ha, hgb, by dsimp only; omega, by dsimp only; omega, by dsimp only; omega⟩)
  rintro ⟨gB, b1⟩ w5 ⟨hHeld, hb, ha, hgb, hgeB, hge2, hneB⟩
  dsimp only at ha hgb hgeB hge2 hneB ⊢
  have e0 : w5.cell? ⟨b1, 0, none⟩ = some (.int .i64 0) := (blk_cell' ha 0).trans rfl
  have e1 : w5.cell? ⟨b1, 1, none⟩ = some (.int .i64 0) := (blk_cell' ha 1).trans rfl
  have e2 : w5.cell? ⟨b1, 2, none⟩ = some (.slice none 0 0) := (blk_cell' ha 2).trans rfl
  have e3 : ∀ i, w5.frozen? ⟨b1, i, none⟩ = false := fun i => blk_frozen' ha i
  refine norm_ (a' := ?_) ?_ ?_
  rotate_left
  · simp only [putAll, Act.put, List.setIfInBounds_toArray, List.set_cons_zero, List.set_cons_succ]
    rfl
  refine last_ (i := 8) (N := none) #[true, true, true, true, true, true, true, true, true] rfl rfl (by kernel_rfl) (by decide) (fun K hK => ?_)
  refine skip_ (w1 := ?_) (by rfl) rfl ?_ ?_
  rotate_left
  · go_simp
    rfl
  refine hK.out _ _ ?_
  clear hK K
  refine done_ (by kernel_rfl) ?_
  refine calm_normal ?_
  go_wp2_with fail
  obtain ⟨w6, hw6⟩ : ∃ w6, ((w5.setCell ⟨b1, 0, none⟩ (.int .i64 G)).setCell ⟨b1, 1, none⟩ (.int .i64 η)).setCell ⟨b1, 2, none⟩ (.slice (some ⟨gB, 0, none⟩) n n) = w6 := ⟨_, rfl⟩
  have KB : Hid (w6.heap[b1]? = some (.cells #[.int .i64 G, .int .i64 η, .slice (some ⟨gB, 0, none⟩) n n] 24 (0, 0))) := by
    rw [← hw6]
    have h1 := heap_setCell_same _ _ 0 _ _ (.int .i64 G) ha
    have h2 := heap_setCell_same _ _ 1 _ _ (.int .i64 η) h1
    exact heap_setCell_same _ _ 2 _ _ (.slice (some ⟨gB, 0, none⟩) n n) h2
  have hB46 : Below w4.heap.size w4 w6 := by rw [← hw6]; exact ((hb.setCell hge2 _).setCell hge2 _).setCell hge2 _
  have hkB : w6.heap[gB]? = some (.cells ((List.replicate n (⟨0, 0, 0, 0, 0⟩ : S31)).flatMap scells).toArray 31 (0, 0)) := by
    rw [← made_zero31, ← hgb, ← hw6]
    exact (Below.heap_setCell _ _ _ _ hneB).trans ((Below.heap_setCell _ _ _ _ hneB).trans (Below.heap_setCell _ _ _ _ hneB))
  rw [hw6]
  have hB06 : Below w.heap.size w w6 := hB04.trans (hB46.mono hB04.size)
  have K0 := Lib.hid ((hB46.block _ (blk_lt' K0.out)).trans K0.out)
  have KA := Lib.hid ((hB46.block _ (blk_lt' KA.out)).trans KA.out)
  have CLA := Lib.hid (CLA.out.below hB46 CLA.out.bb)
  have HA6 := Lib.hid (HA8.out.below (hB84.trans (hB46.mono hB84.size)) HA8.out.bb)
  have hlt0 := blk_lt' K0.out
  have hgB6 : gB < w6.heap.size := blk_lt' hkB
  have hneC : w.heap.size ≠ gB := by have := hB04.size; have := blk_lt' K04.out; omega
  have hneA : a1 ≠ gB := by omega
  have hneG : g1 ≠ gB := by have := CLA4.out.bb; omega
  have hneL : b ≠ gB := by have := HA8.out.bb; have := hB84.size; omega
  clear hw6 e0 e1 e2 e3 ha hgb hb hHeld q0 q1 hB46 hB84
  go_loopw [18] (fun i wr => ∃ k : Nat, k ≤ n ∧ i = .int .i64 k ∧ RelB w6 wr gB n x G y k la) (fun i _ => n - (intOf i).toNat)
  case atStart => exact ⟨0, Nat.zero_le _, rfl, Bel.refl _ _ _, List.replicate n ⟨0, 0, 0, 0, 0⟩, List.length_replicate, hkB, fun i s hi => absurd hi (Nat.not_lt_zero i)⟩
  case round =>
    obtain ⟨k, hk, rfl, hBel, lb, hlbl, hkb, hlb⟩ := hrel
    obtain ⟨wa, rfl⟩ : ∃ wa : World, wa = wr := ⟨_, rfl⟩
    have k0 := (hBel.block _ hlt0 hneC).trans K0.out
    have ka := (hBel.block _ (blk_lt' KA.out) hneA).trans KA.out
    have kb := (hBel.block _ (blk_lt' KB.out) hneB.symm).trans KB.out
    have p0 : wa.cell? ⟨w.heap.size, 0, none⟩ = some (.int .i64 G) := (blk_cell' k0 0).trans rfl
    have p1 : wa.cell? ⟨w.heap.size, 1, none⟩ = some (.int .i64 η) := (blk_cell' k0 1).trans rfl
    have p2 : wa.cell? ⟨w.heap.size, 2, none⟩ = some (.slice A n c) := (blk_cell' k0 2).trans rfl
    have KB' := Lib.hid kb
    have K0' := Lib.hid k0
    have KA' := Lib.hid ka
    by_cases hlt : k < n
    · obtain ⟨s, hs⟩ : ∃ s, la[k]? = some s := ⟨_, List.getElem?_eq_getElem (by rw [HLN.out]; exact hlt)⟩
      have hcl : ClAt wa A b off la := HA6.out.keep (hBel.block _ HA6.out.bb hneL) hBel.size
      have hbd := nd_bd HK.out hs
      obtain ⟨r, hr, hrt⟩ := aroundBits_ok hy1 (by omega) s.f0 (hbd.le (by omega))
      obtain rfl := hcl.hA (by rw [HLN.out]; omega)
      have f0 : wa.cell? ⟨b, off + k * 5, none⟩ = some (.int .i64 s.f0) := hcl.hc k s hs 0 _ rfl
      have f1 : wa.cell? ⟨b, off + k * 5 + 1, none⟩ = some (.int .i64 s.f1) := hcl.hc k s hs 1 _ rfl
      have f2 : wa.cell? ⟨b, off + k * 5 + 2, none⟩ = some (.int .i64 s.f2) := hcl.hc k s hs 2 _ rfl
      have f3 : wa.cell? ⟨b, off + k * 5 + 3, none⟩ = some (.int .i64 s.f3) := hcl.hc k s hs 3 _ rfl
      have f4 : wa.cell? ⟨b, off + k * 5 + 4, none⟩ = some (.int .i64 s.f4) := hcl.hc k s hs 4 _ rfl
      have HS := Lib.hid hs
      have HR := Lib.hid hr
      have HAR := Lib.hid (around_eq (n := n) (x := x) (i := k) (by omega) (by omega) hx2 (by omega))
      have HRT := Lib.hid hrt
      have HBD := Lib.hid hbd
      have hrl : rot n x k < n := rot_lt (by omega)
      have hsz6 := hBel.size
      have hwlt : w.heap.size < wa.heap.size := blk_lt' k0
      clear hs hr hrt hbd hcl k0 ka kb
      go_wp2_with fail
      obtain ⟨w7, hw7⟩ : ∃ w7, wa.alloc (.cells #[.int .i64 s.f0, .int .i64 s.f1, .int .i64 s.f2, .int .i64 s.f3, .int .i64 s.f4] 31) = w7 := ⟨_, rfl⟩
      have hba7 : Below wa.heap.size wa w7 := by rw [← hw7]; exact (Below.refl _ _).alloc (Nat.le_refl _) _
      have kc7 : w7.heap[wa.heap.size]? = some (.cells #[.int .i64 s.f0, .int .i64 s.f1, .int .i64 s.f2, .int .i64 s.f3, .int .i64 s.f4] 31 (0, 0)) := by rw [← hw7]; exact allocNew _ _ _ rfl
      rw [hw7]
      refine (ignitiontop_aroundBits.calls _ s.f0 y G r _ HR.out).mono ?_
      rintro e w8 ⟨rfl, hD8⟩
      have hB78 := hD8.below
      have hba8 : Below wa.heap.size wa w8 := hba7.trans (hB78.mono hba7.size)
      have kc8 := (hB78.block _ (blk_lt' kc7)).trans kc7
      have y0 : w8.cell? ⟨wa.heap.size, 0, none⟩ = some (.int .i64 s.f0) := (blk_cell' kc8 0).trans rfl
      have y1 : ∀ i, w8.frozen? ⟨wa.heap.size, i, none⟩ = false := fun i => blk_frozen' kc8 i
      clear hw7 hba7 kc7 hD8 hB78
      go_wp2_with fail
      obtain ⟨w9, hw9⟩ : ∃ w9, w8.setCell ⟨wa.heap.size, 0, none⟩ (.int .i64 r) = w9 := ⟨_, rfl⟩
      have hba9 : Below wa.heap.size wa w9 := by rw [← hw9]; exact hba8.setCell (Nat.le_refl _) _
      have kc9 : w9.heap[wa.heap.size]? = some (.cells #[.int .i64 r, .int .i64 s.f1, .int .i64 s.f2, .int .i64 s.f3, .int .i64 s.f4] 31 (0, 0)) := by rw [← hw9]; exact heap_setCell_same _ _ 0 _ _ (.int .i64 r) kc8
      rw [hw9]
      have z0 : w9.cell? ⟨b1, 2, none⟩ = some (.slice (some ⟨gB, 0, none⟩) n n) := (blk_cell' ((hba9.block _ (blk_lt' KB'.out)).trans KB'.out) 2).trans rfl
      have z1 : w9.cell? ⟨wa.heap.size, 0, none⟩ = some (.int .i64 r) := (blk_cell' kc9 0).trans rfl
      have z2 : w9.cell? ⟨wa.heap.size, 1, none⟩ = some (.int .i64 s.f1) := (blk_cell' kc9 1).trans rfl
      have z3 : w9.cell? ⟨wa.heap.size, 2, none⟩ = some (.int .i64 s.f2) := (blk_cell' kc9 2).trans rfl
      have z4 : w9.cell? ⟨wa.heap.size, 3, none⟩ = some (.int .i64 s.f3) := (blk_cell' kc9 3).trans rfl
      have z5 : w9.cell? ⟨wa.heap.size, 4, none⟩ = some (.int .i64 s.f4) := (blk_cell' kc9 4).trans rfl
      have hgltA : gB < wa.heap.size := blk_lt' hkb
      have hkb := (hba9.block _ hgltA).trans hkb
      have hglt := Nat.lt_of_lt_of_le hgltA hba9.size
      have hkb9 := Lib.hid hkb
      clear hw9 y0 y1 f0 f1 f2 f3 f4 p0 p1 p2 kc8
      refine wp_calm ?_
      refine start_ (n := 9) (S := fun w' => w'.cell? ⟨b1, 2, none⟩ = some (.slice (some ⟨gB, 0, none⟩) n n) ∧ w'.cell? ⟨wa.heap.size, 0, none⟩ = some (.int .i64 r) ∧ w'.cell? ⟨wa.heap.size, 1, none⟩ = some (.int .i64 s.f1) ∧ w'.cell? ⟨wa.heap.size, 2, none⟩ = some (.int .i64 s.f2) ∧ w'.cell? ⟨wa.heap.size, 3, none⟩ = some (.int .i64 s.f3) ∧ w'.cell? ⟨wa.heap.size, 4, none⟩ = some (.int .i64 s.f4)) (ds := [8]) #[false, false, false, false, false, false, false, false, false] (by kernel_rfl) rfl rfl ⟨z0, z1, z2, z3, z4, z5⟩ (fun hHeld => ?_)
      refine pure_ (i := 0) (N := some 104) (v := ?_) (a' := ?_) #[true, false, false, false, false, false, false, false, false] rfl rfl (by kernel_rfl) (fun _ _ _ h => h) (Or.inl ⟨by rfl, ?_⟩) ?_ ?_
      rotate_left
      · intro w'
        go_simp
        with_reducible rfl
      rotate_left
      · simp only [Act.put, List.setIfInBounds_toArray, List.set_cons_zero, List.set_cons_succ, i64_w, i32_w]
        rfl
      refine pure_ (i := 2) (N := some 106) (v := ?_) (a' := ?_) #[true, false, true, false, false, false, false, false, false] rfl rfl (by kernel_rfl) (fun _ _ _ h => h) (Or.inl ⟨by rfl, ?_⟩) ?_ ?_
      rotate_left
      · intro w'
        go_simp
        with_reducible rfl
      rotate_left
      · simp only [Act.put, List.setIfInBounds_toArray, List.set_cons_zero, List.set_cons_succ, i64_w, i32_w]
        rfl
      refine pure_ (i := 3) (N := some 107) (v := ?_) (a' := ?_) #[true, false, true, true, false, false, false, false, false] rfl rfl (by kernel_rfl) (fun _ _ _ h => h) (Or.inl ⟨by rfl, ?_⟩) ?_ ?_
      rotate_left
      · intro w'
        go_simp
        with_reducible rfl
      rotate_left
      · simp only [Act.put, List.setIfInBounds_toArray, List.set_cons_zero, List.set_cons_succ, i64_w, i32_w]
        rfl
      refine pure_ (i := 4) (N := some 108) (v := ?_) (a' := ?_) #[true, false, true, true, true, false, false, false, false] rfl rfl (by kernel_rfl) (fun _ _ _ h => h) (Or.inl ⟨by rfl, ?_⟩) ?_ ?_
      rotate_left
      · intro w'
        go_simp
        with_reducible rfl
      rotate_left
      · simp only [Act.put, List.setIfInBounds_toArray, List.set_cons_zero, List.set_cons_succ, i64_w, i32_w]
        rfl
      refine take_ (i := 1) (N := some 105) (v := ?_) (a' := ?_) #[true, true, true, true, true, false, false, false, false] rfl rfl (by kernel_rfl) (fun _ _ _ h => h) (Or.inl ⟨by rfl, ?_⟩) hHeld ?_ ?_
      rotate_left
      · rintro w' ⟨s0, s1, s2, s3, s4, s5⟩
        go_simp
        with_reducible rfl
      rotate_left
      · simp only [Act.put, List.setIfInBounds_toArray, List.set_cons_zero, List.set_cons_succ, i64_w, i32_w]
        rfl
      refine take_ (i := 6) (N := some 110) (v := ?_) (a' := ?_) #[true, true, true, true, true, false, true, false, false] rfl rfl (by kernel_rfl) (fun _ _ _ h => h) (Or.inl ⟨by rfl, ?_⟩) hHeld ?_ ?_
      rotate_left
      · rintro w' ⟨s0, s1, s2, s3, s4, s5⟩
        go_simp
        with_reducible rfl
      rotate_left
      · simp only [Act.put, List.setIfInBounds_toArray, List.set_cons_zero, List.set_cons_succ, i64_w, i32_w]
        rfl
      refine one_ (i := 5) (N := some 109) #[true, true, true, true, true, true, true, false, false] rfl rfl (by kernel_rfl) (by decide) (fun K hK => ?_)
      refine goes_ Try.func6 (by kernel_rfl) rfl #[.int .i64 k, .int .i64 x, .int .i64 n] (by rfl) rfl rfl (by simp only [List.map_toArray, List.map_cons, List.map_nil]; rfl) ?_
      with_reducible refine (ignitiontop_around.calls k x n _ _ HAR.out).mono ?_
      rintro e W9 ⟨rfl, hD9⟩
      refine ⟨_, rfl, ?_⟩
      have hB9 := hD9.below
      have hkb := (hB9.block _ hglt).trans hkb
      have cz : ∀ q : Nat, q < 5 → ∃ u, W9.cell? ⟨gB, rot n x k * 5 + q, none⟩ = some u := fun q hq => ⟨_, (blk_cell' hkb _).trans (by rw [List.getElem?_toArray]; exact List.getElem?_eq_getElem (by rw [flat_len scells_len, hlbl]; omega))⟩
      obtain ⟨u0, c0⟩ := cz 0 (by omega)
      obtain ⟨u1, c1⟩ := cz 1 (by omega)
      obtain ⟨u2, c2⟩ := cz 2 (by omega)
      obtain ⟨u3, c3⟩ := cz 3 (by omega)
      obtain ⟨u4, c4⟩ := cz 4 (by omega)
      have cf : ∀ i, W9.frozen? ⟨gB, i, none⟩ = false := fun i => blk_frozen' hkb i
      rw [Nat.add_zero] at c0
      clear cz
      refine hK.out _ _ ⟨pw_cell_below hB9 hHeld.1, pw_cell_below hB9 hHeld.2.1, pw_cell_below hB9 hHeld.2.2.1, pw_cell_below hB9 hHeld.2.2.2.1, pw_cell_below hB9 hHeld.2.2.2.2.1, pw_cell_below hB9 hHeld.2.2.2.2.2⟩ (fun hHeld => ?_)
      clear hK K
      refine norm_ (a' := ?_) ?_ ?_
      rotate_left
      · show Act.put _ (some 109) _ = _
        simp only [Act.put, List.setIfInBounds_toArray, List.set_cons_zero, List.set_cons_succ, i64_w, i32_w]
        rfl
      refine pure_ (i := 7) (N := some 111) (v := ?_) (a' := ?_) #[true, true, true, true, true, true, true, true, false] rfl rfl (by kernel_rfl) (fun _ _ _ h => h) (Or.inl ⟨by rfl, ?_⟩) ?_ ?_
      rotate_left
      · intro w'
        go_simp
        with_reducible rfl
      rotate_left
      · simp only [Act.put, List.setIfInBounds_toArray, List.set_cons_zero, List.set_cons_succ, i64_w, i32_w]
        rfl
      refine last_ (i := 8) (N := none) #[true, true, true, true, true, true, true, true, true] rfl rfl (by kernel_rfl) (by decide) (fun K hK => ?_)
      refine skip_ (w1 := ?_) (by rfl) rfl ?_ ?_
      rotate_left
      · go_simp
        rfl
      refine hK.out _ _ ?_
      clear hK K
      refine done_ (by kernel_rfl) ?_
      refine calm_normal ?_
      go_wp2_with fail
      refine ⟨⟨k + 1, by omega, by simp, relB_step hx1 hlt hBel ((hba9.drew).trans (hB9.mono hba9.size)) lb hlbl hkb hlb HS.out ⟨rfl, rfl, rfl, rfl, HRT.out, HBD.out⟩⟩, by simp [intOf]; omega⟩
    · obtain rfl : n = k := by omega
      clear hk
      have KL : ∀ {P : Prop}, P → P := fun h => h
      go_wp2_with fail
      have H2 : Hid (Two n x G y hold la lb) := two_of HK.out (by omega) HLN.out hlbl hx1 hx2 hy1 hlb
      have HL : Hid (LawAt wa w.heap.size a1 b1 g1 gB G n cap1 η (.slice A n c) la lb) := ⟨KL k0, KL ka, KL kb, CLA.out.keep (hBel.block _ CLA.out.bb hneG) hBel.size, cl_of_blk (n := n) hkb⟩
      have hB0a : Below w.heap.size w wa := hB06.trans (hBel.old (Nat.le_trans hB04.size hgeB) hB06.size)
      clear k0 ka kb hkb hlb hBel K0' KA' KB' KA KB K0 CLA HA6 HA8 HA hgB6 hneA hneB hneC hneG hneL p1 p2
      go_loopw [20, 114] (fun v i wr => ∃ k : Nat, k ≤ m ∧ i = .int .i64 k ∧ Below wa.heap.size wa wr ∧ wr.ownsRow wa.heap.size 33 4 v k (((ls.take k).map (tuNg n x G y)).flatMap Ng.cells)) (fun _ i _ => m - (intOf i).toNat)
      case atStart => exact ⟨0, Nat.zero_le _, rfl, Below.refl _ _, World.ownsRow_nil _ _ _ _⟩
      case round =>
        obtain ⟨k, hk, rfl, hBq, hown⟩ := hrel
        obtain ⟨wq, rfl⟩ : ∃ wq : World, wq = wr := ⟨_, rfl⟩
        have HLq := Lib.hid (HL.out.below hBq)
        have p0 : wq.cell? ⟨w.heap.size, 0, none⟩ = some (.int .i64 G) := (blk_cell' HLq.out.box 0).trans rfl
        by_cases hlt : k < m
        · obtain ⟨q, hq⟩ : ∃ q, ls[k]? = some q := ⟨_, List.getElem?_eq_getElem (by rw [HLM.out]; exact hlt)⟩
          have hng : nb0 < w.heap.size ∧ NgAt w nb0 noff ls := by
            rcases HN1.out with h | h
            · omega
            · exact h
          have hBw : Below w.heap.size w wq := hB0a.trans (hBq.mono hB0a.size)
          have f0 : wq.cell? ⟨nb0, noff + k * 4, none⟩ = some (.int .i64 q.at_) := (below_at hBw hng.1).trans (hng.2 k q hq 0 _ rfl)
          have f1 : wq.cell? ⟨nb0, noff + k * 4 + 1, none⟩ = some (.int .i64 q.kind) := (below_at hBw hng.1).trans (hng.2 k q hq 1 _ rfl)
          have f2 : wq.cell? ⟨nb0, noff + k * 4 + 2, none⟩ = some (.int .i64 q.node) := (below_at hBw hng.1).trans (hng.2 k q hq 2 _ rfl)
          have f3 : wq.cell? ⟨nb0, noff + k * 4 + 3, none⟩ = some (.int .i64 q.arg) := (below_at hBw hng.1).trans (hng.2 k q hq 3 _ rfl)
          obtain rfl := hAl (by omega)
          have HQ := Lib.hid hq
          have HO := Lib.hid hown
          have hwlt : w.heap.size < wq.heap.size := blk_lt' HLq.out.box
          obtain ⟨c1, hc1⟩ : ∃ c1, decide (0 ≤ q.node ∧ q.node < n) = c1 := ⟨_, rfl⟩
          obtain ⟨c2, hc2⟩ : ∃ c2, decide ((q.kind = 1 ∨ q.kind = 2) ∧ 0 ≤ q.arg ∧ q.arg < G) = c2 := ⟨_, rfl⟩
          obtain ⟨c3, hc3⟩ : ∃ c3, decide (q.kind = 4 ∧ 0 ≤ q.arg ∧ q.arg < n) = c3 := ⟨_, rfl⟩
          have C1 := Lib.hid hc1
          have C2 := Lib.hid hc2
          have C3 := Lib.hid hc3
          clear hq hown hng hc1 hc2 hc3
          go_upto_region 17 with fail
          obtain ⟨w10, hw10⟩ : ∃ w10, wq.alloc (.cells #[.int .i64 q.at_, .int .i64 q.kind, .int .i64 q.node, .int .i64 q.arg] 33) = w10 := ⟨_, rfl⟩
          have B10 : Below wq.heap.size wq w10 := by rw [← hw10]; exact (Below.refl _ _).alloc (Nat.le_refl _) _
          have k10 : w10.heap[wq.heap.size]? = some (.cells #[.int .i64 q.at_, .int .i64 q.kind, .int .i64 q.node, .int .i64 q.arg] 33 (0, 0)) := by rw [← hw10]; exact allocNew _ _ _ rfl
          have y2 : w10.cell? ⟨wq.heap.size, 2, none⟩ = some (.int .i64 q.node) := (blk_cell' k10 2).trans rfl
          rw [hw10]
          clear hw10 f0 f1 f2 f3
          go_cut [126] (fun s wx => s = .bool c1 ∧ w10 = wx)
          case first =>
            by_cases h1 : 0 ≤ q.node
            · by_cases h2 : q.node < n
              · have hc : c1 = true := by rw [← C1.out]; exact decide_eq_true ⟨h1, h2⟩
                go_wp2_with fail
                go_meet
                exact ⟨by rw [hc], rfl⟩
              · have hc : c1 = false := by rw [← C1.out]; exact decide_eq_false (fun h => h2 h.2)
                have h2' : decide (q.node < n) = false := decide_eq_false h2
                go_wp2_with fail
                go_meet
                exact ⟨by rw [hc], rfl⟩
            · have hc : c1 = false := by rw [← C1.out]; exact decide_eq_false (fun h => h1 h.1)
              have h1' : decide (0 ≤ q.node) = false := decide_eq_false h1
              go_wp2_with fail
              go_meet
              exact ⟨by rw [hc], rfl⟩
          case rest =>
            obtain ⟨rfl, rfl⟩ := hcut
            go_upto_if 126 with fail
            go_cut [] (fun wx => Below wq.heap.size wq wx ∧ wx.heap[wq.heap.size]? = some (.cells #[.int .i64 q.at_, .int .i64 q.kind, .int .i64 (tuNg n x G y q).node, .int .i64 q.arg] 33 (0, 0)))
            case first =>
              cases c1
              · have hnv : (tuNg n x G y q).node = q.node := if_neg (of_decide_eq_false C1.out)
                go_wp2_with fail
                go_meet
                exact ⟨B10, by rw [hnv]; exact k10⟩
              · have hd := of_decide_eq_true C1.out
                have hnv : (tuNg n x G y q).node = ((rot n x q.node.toNat : Nat) : Int) := if_pos hd
                have HAR := Lib.hid (around_int (n := n) (x := x) (i := q.node) (by omega) hx2 hd.1 hd.2)
                clear hd
                go_wp2_with fail
                refine (ignitiontop_around.calls q.node x n _ _ HAR.out).mono ?_
                rintro e w11 ⟨rfl, hD⟩
                have hB := hD.below
                have kk := (hB.block _ (blk_lt' k10)).trans k10
                have yf : ∀ i, w11.frozen? ⟨wq.heap.size, i, none⟩ = false := fun i => blk_frozen' kk i
                have yv : w11.cell? ⟨wq.heap.size, 2, none⟩ = some (.int .i64 q.node) := (blk_cell' kk 2).trans rfl
                go_wp2_with fail
                go_meet
                exact ⟨(B10.trans (hB.mono B10.size)).setCell (Nat.le_refl _) _, by rw [hnv]; exact heap_setCell_same _ _ 2 _ _ _ kk⟩
            case rest =>
              obtain ⟨B12, k12⟩ := hcut
              obtain ⟨w12, rfl⟩ : ∃ w12, w12 = wc := ⟨_, rfl⟩
              obtain ⟨nv, hnv⟩ : ∃ nv, (tuNg n x G y q).node = nv := ⟨_, rfl⟩
              rw [hnv] at k12
              have HNV := Lib.hid hnv
              have y1 : w12.cell? ⟨wq.heap.size, 1, none⟩ = some (.int .i64 q.kind) := (blk_cell' k12 1).trans rfl
              have y3 : w12.cell? ⟨wq.heap.size, 3, none⟩ = some (.int .i64 q.arg) := (blk_cell' k12 3).trans rfl
              have p0 := pw_cell_below B12 p0
              clear y2 k10 B10 hnv
              go_upto_region 19 with fail
              go_cut [152] (fun s wx => s = .bool c2 ∧ w12 = wx)
              case first =>
                by_cases hk1 : q.kind = 1
                · have b1' : (q.kind == 1) = true := by simpa using hk1
                  have HK1 := Lib.hid hk1
                  clear hk1
                  by_cases h3 : 0 ≤ q.arg
                  · by_cases h4 : q.arg < G
                    · skip
                      have hc : c2 = true := by rw [← C2.out]; exact decide_eq_true ⟨.inl HK1.out, h3, h4⟩
                      go_wp2_with fail
                      go_meet
                      exact ⟨by rw [hc], rfl⟩
                    · skip
                      have hc : c2 = false := by rw [← C2.out]; exact decide_eq_false (fun h => h4 h.2.2)
                      have h4' : decide (q.arg < G) = false := decide_eq_false h4
                      go_wp2_with fail
                      go_meet
                      exact ⟨by rw [hc], rfl⟩
                  · skip
                    have hc : c2 = false := by rw [← C2.out]; exact decide_eq_false (fun h => h3 h.2.1)
                    have h3' : decide (0 ≤ q.arg) = false := decide_eq_false h3
                    go_wp2_with fail
                    go_meet
                    exact ⟨by rw [hc], rfl⟩
                · have b1' : (q.kind == 1) = false := by simpa using hk1
                  by_cases hk2 : q.kind = 2
                  · have b2' : (q.kind == 2) = true := by simpa using hk2
                    have HK2 := Lib.hid hk2
                    clear hk2
                    by_cases h3 : 0 ≤ q.arg
                    · by_cases h4 : q.arg < G
                      · skip
                        have hc : c2 = true := by rw [← C2.out]; exact decide_eq_true ⟨.inr HK2.out, h3, h4⟩
                        go_wp2_with fail
                        go_meet
                        exact ⟨by rw [hc], rfl⟩
                      · skip
                        have hc : c2 = false := by rw [← C2.out]; exact decide_eq_false (fun h => h4 h.2.2)
                        have h4' : decide (q.arg < G) = false := decide_eq_false h4
                        go_wp2_with fail
                        go_meet
                        exact ⟨by rw [hc], rfl⟩
                    · skip
                      have hc : c2 = false := by rw [← C2.out]; exact decide_eq_false (fun h => h3 h.2.1)
                      have h3' : decide (0 ≤ q.arg) = false := decide_eq_false h3
                      go_wp2_with fail
                      go_meet
                      exact ⟨by rw [hc], rfl⟩
                  · have b2' : (q.kind == 2) = false := by simpa using hk2
                    have hc : c2 = false := by rw [← C2.out]; exact decide_eq_false (fun h => h.1.elim hk1 hk2)
                    go_wp2_with fail
                    go_meet
                    exact ⟨by rw [hc], rfl⟩
              case rest =>
                obtain ⟨rfl, rfl⟩ := hcut
                obtain ⟨av, hav⟩ : ∃ av : Int, (if c2 = true then ((rot G y q.arg.toNat : Nat) : Int) else q.arg) = av := ⟨_, rfl⟩
                have HAV := Lib.hid hav
                clear hav
                go_upto_if 152 with fail
                go_cut [] (fun wx => Below wq.heap.size wq wx ∧ wx.heap[wq.heap.size]? = some (.cells #[.int .i64 q.at_, .int .i64 q.kind, .int .i64 nv, .int .i64 av] 33 (0, 0)))
                case first =>
                  cases c2
                  · have hnv : av = q.arg := (HAV.out.symm.trans (if_neg (by decide)))
                    go_wp2_with fail
                    go_meet
                    exact ⟨B12, by rw [hnv]; exact k12⟩
                  · have hd := of_decide_eq_true C2.out
                    have hnv : av = ((rot G y q.arg.toNat : Nat) : Int) := HAV.out.symm.trans (if_pos rfl)
                    have HAR := Lib.hid (around_int (n := G) (x := y) (i := q.arg) (by omega) hy2 hd.2.1 hd.2.2)
                    clear hd
                    go_wp2_with fail
                    refine (ignitiontop_around.calls q.arg y G _ _ HAR.out).mono ?_
                    rintro e w11 ⟨rfl, hD⟩
                    have hB := hD.below
                    have kk := (hB.block _ (blk_lt' k12)).trans k12
                    have yf : ∀ i, w11.frozen? ⟨wq.heap.size, i, none⟩ = false := fun i => blk_frozen' kk i
                    have yv : w11.cell? ⟨wq.heap.size, 3, none⟩ = some (.int .i64 q.arg) := (blk_cell' kk 3).trans rfl
                    go_wp2_with fail
                    go_meet
                    exact ⟨(B12.trans (hB.mono B12.size)).setCell (Nat.le_refl _) _, by rw [hnv]; exact heap_setCell_same _ _ 3 _ _ _ kk⟩
                case rest =>
                  obtain ⟨B13, k13⟩ := hcut
                  obtain ⟨w13, rfl⟩ : ∃ w13, w13 = wc := ⟨_, rfl⟩
                  have y1 : w13.cell? ⟨wq.heap.size, 1, none⟩ = some (.int .i64 q.kind) := (blk_cell' k13 1).trans rfl
                  have y3 : w13.cell? ⟨wq.heap.size, 3, none⟩ = some (.int .i64 av) := (blk_cell' k13 3).trans rfl
                  clear k12 B12
                  have hav4 : Hid (q.kind = 4 → av = q.arg) := fun h4 => HAV.out.symm.trans (if_neg (by rw [← C2.out]; intro h; have := of_decide_eq_true h; omega))
                  go_upto_region 21 with fail
                  go_cut [173] (fun s wx => s = .bool c3 ∧ w13 = wx)
                  case first =>
                    by_cases hk4 : q.kind = 4
                    · obtain rfl := hav4.out hk4
                      have b4' : (q.kind == 4) = true := by simpa using hk4
                      have HK4 := Lib.hid hk4
                      clear hk4
                      by_cases h3 : 0 ≤ q.arg
                      · by_cases h4 : q.arg < n
                        · skip
                          have hc : c3 = true := by rw [← C3.out]; exact decide_eq_true ⟨HK4.out, h3, h4⟩
                          go_wp2_with fail
                          go_meet
                          exact ⟨by rw [hc], rfl⟩
                        · skip
                          have hc : c3 = false := by rw [← C3.out]; exact decide_eq_false (fun h => h4 h.2.2)
                          have h4' : decide (q.arg < n) = false := decide_eq_false h4
                          go_wp2_with fail
                          go_meet
                          exact ⟨by rw [hc], rfl⟩
                      · skip
                        have hc : c3 = false := by rw [← C3.out]; exact decide_eq_false (fun h => h3 h.2.1)
                        have h3' : decide (0 ≤ q.arg) = false := decide_eq_false h3
                        go_wp2_with fail
                        go_meet
                        exact ⟨by rw [hc], rfl⟩
                    · have b4' : (q.kind == 4) = false := by simpa using hk4
                      have hc : c3 = false := by rw [← C3.out]; exact decide_eq_false (fun h => hk4 h.1)
                      go_wp2_with fail
                      go_meet
                      exact ⟨by rw [hc], rfl⟩
                  case rest =>
                    obtain ⟨rfl, rfl⟩ := hcut
                    go_upto_if 173 with fail
                    go_cut [] (fun wx => Below wq.heap.size wq wx ∧ wx.heap[wq.heap.size]? = some (.cells #[.int .i64 q.at_, .int .i64 q.kind, .int .i64 nv, .int .i64 (tuNg n x G y q).arg] 33 (0, 0)))
                    case first =>
                      cases c3
                      · have hnv : (tuNg n x G y q).arg = av := (tu_arg n x G y q c2 C2.out).trans ((if_neg (by rw [C3.out]; decide)).trans HAV.out)
                        go_wp2_with fail
                        go_meet
                        exact ⟨B13, by rw [hnv]; exact k13⟩
                      · have hd := of_decide_eq_true C3.out
                        obtain rfl := hav4.out hd.1
                        have hnv : (tuNg n x G y q).arg = ((rot n x q.arg.toNat : Nat) : Int) := (tu_arg n x G y q c2 C2.out).trans (if_pos C3.out)
                        have HAR := Lib.hid (around_int (n := n) (x := x) (i := q.arg) (by omega) hx2 hd.2.1 hd.2.2)
                        clear hd
                        go_wp2_with fail
                        refine (ignitiontop_around.calls q.arg x n _ _ HAR.out).mono ?_
                        rintro e w11 ⟨rfl, hD⟩
                        have hB := hD.below
                        have kk := (hB.block _ (blk_lt' k13)).trans k13
                        have yf : ∀ i, w11.frozen? ⟨wq.heap.size, i, none⟩ = false := fun i => blk_frozen' kk i
                        have yv : w11.cell? ⟨wq.heap.size, 3, none⟩ = some (.int .i64 q.arg) := (blk_cell' kk 3).trans rfl
                        go_wp2_with fail
                        go_meet
                        exact ⟨(B13.trans (hB.mono B13.size)).setCell (Nat.le_refl _) _, by rw [hnv]; exact heap_setCell_same _ _ 3 _ _ _ kk⟩
                    case rest =>
                      obtain ⟨B14, k14⟩ := hcut
                      obtain ⟨w14, rfl⟩ : ∃ w14, w14 = wc := ⟨_, rfl⟩
                      rw [← HNV.out] at k14
                      obtain ⟨q', hq'⟩ : ∃ q', (tuNg n x G y q) = q' := ⟨_, rfl⟩
                      rw [show q.at_ = (tuNg n x G y q).at_ from rfl, show q.kind = (tuNg n x G y q).kind from rfl, hq'] at k14
                      have y0 : w14.cell? ⟨wq.heap.size, 0, none⟩ = some (.int .i64 q'.at_) := (blk_cell' k14 0).trans rfl
                      have y1 : w14.cell? ⟨wq.heap.size, 1, none⟩ = some (.int .i64 q'.kind) := (blk_cell' k14 1).trans rfl
                      have y2 : w14.cell? ⟨wq.heap.size, 2, none⟩ = some (.int .i64 q'.node) := (blk_cell' k14 2).trans rfl
                      have y3 : w14.cell? ⟨wq.heap.size, 3, none⟩ = some (.int .i64 q'.arg) := (blk_cell' k14 3).trans rfl
                      have HO4 : w14.ownsRow wa.heap.size 33 4 u20 k (((ls.take k).map (tuNg n x G y)).flatMap Ng.cells) := own_belowL HO.out B14
                      have HTK : Hid (((ls.take (k + 1)).map (tuNg n x G y)).flatMap Ng.cells = ((ls.take k).map (tuNg n x G y)).flatMap Ng.cells ++ [.int .i64 q'.at_, .int .i64 q'.kind, .int .i64 q'.node, .int .i64 q'.arg]) := by rw [take_tu n x G y ls k q HQ.out, hq']; rfl
                      have B14a : Below wa.heap.size wa w14 := hBq.trans (B14.mono hBq.size)
                      have hz14 := B14a.size
                      clear B13 k13 hq' k14
                      go_wp2_with (at_builtin; refine print_append_cells (w0 := wa) (W := w14) wa.heap.size rfl _ _ 25 33 _ 4 32 rfl Try.underlying25 info33 rfl (by decide) (by decide) u20 k (((ls.take k).map (tuNg n x G y)).flatMap Ng.cells) [.int .i64 q'.at_, .int .i64 q'.kind, .int .i64 q'.node, .int .i64 q'.arg] rfl rfl rfl (ncells_one q') HO4 B14a hz14 (by omega) ?_; intro v1 w15 hown1 hB15 hgr15 hat15)
                      exact ⟨⟨k + 1, by omega, by simp, hB15, by rw [HTK.out]; exact hown1⟩, by simp [intOf]; omega⟩
        · obtain rfl : m = k := by omega
          clear hk
          have hown : wq.ownsRow wa.heap.size 33 4 u20 (ls.map (tuNg n x G y)).length ((ls.map (tuNg n x G y)).flatMap Ng.cells) := by
            rw [List.length_map, HLM.out, ← List.take_length (l := ls), HLM.out]
            exact hown
          obtain ⟨An, gn, cn, hun, hlen, hAn, hNgn, hgn⟩ := ng_of_own hown w.heap.size (blk_lt' HLq.out.box)
          rw [List.length_map, HLM.out] at hun hlen hAn
          subst hun
          have HNB := Lib.hid hNgn
          have hBw : Below w.heap.size w wq := hB0a.trans (hBq.mono hB0a.size)
          have HL4 : Hid ((ls.flatMap Ng.cells).length = m * 4) := by rw [← HLM.out]; exact flat_len ncells_len ls
          have hnews : Hid (∀ (W : World), Below w.heap.size w W → ∀ j u, (ls.flatMap Ng.cells)[j]? = some u → W.cell? ((⟨nb0, noff, none⟩ : Addr).add j) = some u) := fun W hW j u hu => by
            rcases HN1.out with h | ⟨h1, h2⟩
            · have hj := (List.getElem?_eq_some_iff.1 hu).1
              rw [HL4.out, h] at hj
              omega
            · exact (NgAt.keep h2 (fun o => below_at hW h1)).flat j u hu
          have HOe : Hid ((wq.alloc (.cells #[] 33)).ownsRow wq.heap.size 33 4 (.slice (some ⟨wq.heap.size, 0, none⟩) 0 0) 0 []) := World.ownsRow_lit (base := wq.heap.size) (e := 33) (size := 4) wq #[] 0 (Nat.le_refl _) (by decide) rfl
          have hBe : Hid (Below w.heap.size w (wq.alloc (.cells #[] 33))) := hBw.alloc hBw.size _
          clear hown hNgn
          go_upto_region 26 with (at_builtin; (refine wpList_append_row (W := wq.alloc (.cells #[] 33)) rfl _ _ wq.heap.size 25 33 _ 4 32 rfl Try.underlying25 info33 rfl (by decide) (by decide) wq.heap.size Al ⟨nb0, noff, none⟩ m lc (ls.flatMap Ng.cells) rfl rfl HL4.out hAl (hnews.out _ hBe.out) (flat_one ncells_one ls) HOe.out (by simp) (by omega) ?_); intro g9 cap9 w16 hown2 hle9 hgr9 hat9)
          have hB16 : Below wq.heap.size wq w16 := ((Below.refl _ wq).alloc (Nat.le_refl _) _).grown hgr9 (by simp) (fun k e => by cases e; exact Nat.le_refl _)
          have hNga : NgAt w16 g9 0 ls ∧ g9 < w16.heap.size := ng_own_some HLM.out hown2
          have HNA := Lib.hid hNga
          have HNB := Lib.hid (NgAt.keep HNB.out (fun o => below_at hB16 hgn))
          have HL16 := Lib.hid (HLq.out.below hB16)
          have hgn16 := Nat.lt_of_lt_of_le hgn hB16.size
          have hBw16 : Below w.heap.size w w16 := hBw.trans (hB16.mono hBw.size)
          clear hgr9 hat9 hown2 hNga hB16 hgn HOe hBe hnews HL4 hBw
          obtain ⟨⟨R1, E1, er⟩, hp1⟩ : ∃ z, playR G hold T la ls = z := ⟨_, rfl⟩
          obtain ⟨⟨R2, E2, er2⟩, hp2⟩ : ∃ z, playR G hold T lb (ls.map (tuNg n x G y)) = z := ⟨_, rfl⟩
          obtain ⟨⟨Q1, eq1⟩, hq1⟩ : ∃ z, askR G hold T la ls = z := ⟨_, rfl⟩
          obtain ⟨⟨Q2, eq2⟩, hq2⟩ : ∃ z, askR G hold T lb (ls.map (tuNg n x G y)) = z := ⟨_, rfl⟩
          obtain ⟨eb, hbe⟩ : ∃ eb, begErr G T la ls = eb := ⟨_, rfl⟩
          obtain ⟨s1, s2, s3, s4, s5, s6⟩ := play_same H2.out T ls
          obtain ⟨t1, t2, t3⟩ := ask_same H2.out T ls
          have t4 := two_beg H2.out T ls
          simp only [hp1, hp2] at s1 s2 s3 s4 s5 s6
          simp only [hq1, hq2] at t1 t2 t3
          rw [hbe] at t4
          subst s1
          subst t1
          obtain ⟨N, hN⟩ : ∃ N, R1.length = N := ⟨_, rfl⟩
          obtain ⟨M, hM⟩ : ∃ M, E1.length = M := ⟨_, rfl⟩
          obtain ⟨L, hL⟩ : ∃ L, Q1.length = L := ⟨_, rfl⟩
          have hls1 : ls.length ≤ 1000 := by rw [HLM.out]; omega
          have hN1000 : N ≤ 1000 := by
            rw [← hN, show R1 = (playR G hold T la ls).1 from by rw [hp1]]
            exact playR_len (by omega)
          have hL1000 : L ≤ 1000 := by
            rw [← hL, show Q1 = (askR G hold T la ls).1 from by rw [hq1]]
            exact askR_len (by omega)
          have hM16 : M ≤ 16 := by
            rw [← hM]
            rcases s5 with h | h
            · rw [h]; simp
            · omega
          have hclb : lb.length = n := H2.out.cl.lb
          have HPa : Hid (∀ W : World, ClAt W (some ⟨g1, 0, none⟩) g1 0 la → NgAt W g9 0 ls → g9 < W.heap.size → Calls Try.prog 8 #[.agg #[.int .i64 G, .int .i64 η, .slice (some ⟨g1, 0, none⟩) n cap1], .int .i64 T, .slice (some ⟨g9, 0, none⟩) m cap9] W fun e w' =>
              ∃ A1 r1 c1 A2 r2 c2, e = .returned (.tuple #[.slice A1 N c1, .slice A2 M c2, .int .i64 er2]) ∧ N ≤ c1 ∧ M ≤ c2 ∧ RdInts w' A1 r1 R1 ∧ RdInts w' A2 r2 E1 ∧ Below W.heap.size W w') := fun W h1 h2 h3 => by
            have h := play_all T HK.out (by rw [HLN.out]; exact hle1) W h1 (some ⟨g9, 0, none⟩) g9 0 cap9 ls hls1 (fun _ => rfl) h2 h3
            rw [hp1, HH.out, HLN.out, HLM.out] at h
            refine h.mono ?_
            rintro e w' ⟨v1, v2, rfl, i1, i2, hB⟩
            obtain ⟨A1, r1, c1, rfl, l1, d1⟩ := i1.form
            obtain ⟨A2, r2, c2, rfl, l2, d2⟩ := i2.form
            rw [hN] at l1
            rw [hM] at l2
            exact ⟨A1, r1, c1, A2, r2, c2, by rw [hN, hM], l1, l2, d1, d2, hB⟩
          have HPb : Hid (∀ W : World, ClAt W (some ⟨gB, 0, none⟩) gB 0 lb → NgAt W gn 0 (ls.map (tuNg n x G y)) → gn < W.heap.size → Calls Try.prog 8 #[.agg #[.int .i64 G, .int .i64 η, .slice (some ⟨gB, 0, none⟩) n n], .int .i64 T, .slice An m cn] W fun e w' =>
              ∃ A1 r1 c1 A2 r2 c2, e = .returned (.tuple #[.slice A1 N c1, .slice A2 M c2, .int .i64 er2]) ∧ N ≤ c1 ∧ M ≤ c2 ∧ RdInts w' A1 r1 R2 ∧ RdInts w' A2 r2 E2 ∧ Below W.heap.size W w') := fun W h1 h2 h3 => by
            have h := play_all T H2.out.kb (by rw [hclb]; exact Nat.le_refl _) W h1 An gn 0 cn (ls.map (tuNg n x G y)) (by rw [List.length_map]; exact hls1) (by rw [List.length_map, HLM.out]; exact hAn) h2 h3
            rw [hp2, HH.out, hclb, List.length_map, HLM.out] at h
            refine h.mono ?_
            rintro e w' ⟨v1, v2, rfl, i1, i2, hB⟩
            obtain ⟨A1, r1, c1, rfl, l1, d1⟩ := i1.form
            obtain ⟨A2, r2, c2, rfl, l2, d2⟩ := i2.form
            dsimp only at l1 l2
            rw [s2, hN] at l1
            rw [s4, hM] at l2
            exact ⟨A1, r1, c1, A2, r2, c2, by dsimp only; rw [s2, s4, hN, hM], l1, l2, d1, d2, hB⟩
          have HQa : Hid (∀ W : World, ClAt W (some ⟨g1, 0, none⟩) g1 0 la → NgAt W g9 0 ls → g9 < W.heap.size → Calls Try.prog 11 #[.agg #[.int .i64 G, .int .i64 η, .slice (some ⟨g1, 0, none⟩) n cap1], .int .i64 T, .slice (some ⟨g9, 0, none⟩) m cap9] W fun e w' =>
              ∃ A1 r1 c1, e = .returned (.tuple #[.slice A1 L c1, .int .i64 eq2]) ∧ L ≤ c1 ∧ RdInts w' A1 r1 Q1 ∧ Below W.heap.size W w') := fun W h1 h2 h3 => by
            have h := ask_all T HK.out (by rw [HLN.out]; exact hle1) W h1 (some ⟨g9, 0, none⟩) g9 0 cap9 ls hls1 (fun _ => rfl) h2 h3
            rw [hq1, HH.out, HLN.out, HLM.out] at h
            refine h.mono ?_
            rintro e w' ⟨v1, rfl, i1, hB⟩
            obtain ⟨A1, r1, c1, rfl, l1, d1⟩ := i1.form
            rw [hL] at l1
            exact ⟨A1, r1, c1, by rw [hL], l1, d1, hB⟩
          have HQb : Hid (∀ W : World, ClAt W (some ⟨gB, 0, none⟩) gB 0 lb → NgAt W gn 0 (ls.map (tuNg n x G y)) → gn < W.heap.size → Calls Try.prog 11 #[.agg #[.int .i64 G, .int .i64 η, .slice (some ⟨gB, 0, none⟩) n n], .int .i64 T, .slice An m cn] W fun e w' =>
              ∃ A1 r1 c1, e = .returned (.tuple #[.slice A1 L c1, .int .i64 eq2]) ∧ L ≤ c1 ∧ RdInts w' A1 r1 Q2 ∧ Below W.heap.size W w') := fun W h1 h2 h3 => by
            have h := ask_all T H2.out.kb (by rw [hclb]; exact Nat.le_refl _) W h1 An gn 0 cn (ls.map (tuNg n x G y)) (by rw [List.length_map]; exact hls1) (by rw [List.length_map, HLM.out]; exact hAn) h2 h3
            rw [hq2, HH.out, hclb, List.length_map, HLM.out] at h
            refine h.mono ?_
            rintro e w' ⟨v1, rfl, i1, hB⟩
            obtain ⟨A1, r1, c1, rfl, l1, d1⟩ := i1.form
            dsimp only at l1
            rw [t2, hL] at l1
            exact ⟨A1, r1, c1, by dsimp only; rw [t2, hL], l1, d1, hB⟩
          have HFa : Hid (∀ W : World, ClAt W (some ⟨g1, 0, none⟩) g1 0 la → NgAt W g9 0 ls → g9 < W.heap.size → Calls Try.prog 12 #[.agg #[.int .i64 G, .int .i64 η, .slice (some ⟨g1, 0, none⟩) n cap1], .int .i64 T, .slice (some ⟨g9, 0, none⟩) m cap9] W fun e w' =>
              ∃ t i, e = .returned (.tuple #[.int .i64 t, .int .i64 i, .int .i64 eb]) ∧ failR G η T la ls t ∧ Below W.heap.size W w') := fun W h1 h2 h3 => by
            have h := fail_all T HK.out (by rw [HLN.out]; exact hle1) W h1 (some ⟨g9, 0, none⟩) g9 0 cap9 ls hls1 (fun _ => rfl) h2 h3
            rw [hbe, HH.out, HLN.out, HLM.out] at h
            exact h
          have HFb : Hid (∀ W : World, ClAt W (some ⟨gB, 0, none⟩) gB 0 lb → NgAt W gn 0 (ls.map (tuNg n x G y)) → gn < W.heap.size → Calls Try.prog 12 #[.agg #[.int .i64 G, .int .i64 η, .slice (some ⟨gB, 0, none⟩) n n], .int .i64 T, .slice An m cn] W fun e w' =>
              ∃ t i, e = .returned (.tuple #[.int .i64 t, .int .i64 i, .int .i64 eb]) ∧ failR G η T lb (ls.map (tuNg n x G y)) t ∧ Below W.heap.size W w') := fun W h1 h2 h3 => by
            have h := fail_all T H2.out.kb (by rw [hclb]; exact Nat.le_refl _) W h1 An gn 0 cn (ls.map (tuNg n x G y)) (by rw [List.length_map]; exact hls1) (by rw [List.length_map, HLM.out]; exact hAn) h2 h3
            rw [t4, HH.out, hclb, List.length_map, HLM.out] at h
            exact h
          have HAI := Lib.hid (energies_same hx1 (show n ≤ 16 by omega) s4 s5 s6)
          have HSI := Lib.hid (sameInts_self E2 (by omega))
          have HE2 := Lib.hid (s4.trans hM)
          have HE1 := Lib.hid hM
          have HR1L := Lib.hid hN
          have HQ1L := Lib.hid hL
          have HROW := Lib.hid s3
          have HASK := Lib.hid t3
          clear hp1 hp2 hq1 hq2 hbe s2 s3 s4 s5 s6 t2 t3 t4 hN hM hL hclb hls1
          have hL16 := HL16.out
          have HL := HL16
          have HNB := Lib.hid (And.intro HNB.out hgn16)
          have HBW := Lib.hid hBw16
          clear HL16 hgn16 hBw16 p0 hL16
          have z0 : w16.cell? ⟨a1, 0, none⟩ = some (.int .i64 G) := (blk_cell' HL.out.boxa 0).trans rfl
          have z1 : w16.cell? ⟨a1, 1, none⟩ = some (.int .i64 η) := (blk_cell' HL.out.boxa 1).trans rfl
          have z2 : w16.cell? ⟨a1, 2, none⟩ = some (.slice (some ⟨g1, 0, none⟩) n cap1) := (blk_cell' HL.out.boxa 2).trans rfl
          go_wp2_with fail
          refine (HPa.out _ HL.out.cla HNA.out.1 HNA.out.2).mono ?_
          rintro e w17 ⟨A1, r1, d1, A2, r2, d2, rfl, hd1, hd2, hR1, hE1, hB17⟩
          have HR1 := Lib.hid hR1
          have HE1v := Lib.hid hE1
          clear hR1 hE1 z0 z1 z2
          have HL := Lib.hid (HL.out.below hB17)
          have HNA := Lib.hid (And.intro (NgAt.keep HNA.out.1 (fun o => below_at hB17 HNA.out.2)) (Nat.lt_of_lt_of_le HNA.out.2 hB17.size))
          have HNB := Lib.hid (And.intro (NgAt.keep HNB.out.1 (fun o => below_at hB17 HNB.out.2)) (Nat.lt_of_lt_of_le HNB.out.2 hB17.size))
          have HBW := Lib.hid (HBW.out.trans (hB17.mono HBW.out.size))
          clear hB17
          have z3 : w17.cell? ⟨b1, 0, none⟩ = some (.int .i64 G) := (blk_cell' HL.out.boxb 0).trans rfl
          have z4 : w17.cell? ⟨b1, 1, none⟩ = some (.int .i64 η) := (blk_cell' HL.out.boxb 1).trans rfl
          have z5 : w17.cell? ⟨b1, 2, none⟩ = some (.slice (some ⟨gB, 0, none⟩) n n) := (blk_cell' HL.out.boxb 2).trans rfl
          go_wp2_with fail
          refine (HPb.out _ HL.out.clb HNB.out.1 HNB.out.2).mono ?_
          rintro e w18 ⟨A3, r3, d3, A4, r4, d4, rfl, hd3, hd4, hR2, hE2, hB18⟩
          have HL := Lib.hid (HL.out.below hB18)
          have HNA := Lib.hid (And.intro (NgAt.keep HNA.out.1 (fun o => below_at hB18 HNA.out.2)) (Nat.lt_of_lt_of_le HNA.out.2 hB18.size))
          have HNB := Lib.hid (And.intro (NgAt.keep HNB.out.1 (fun o => below_at hB18 HNB.out.2)) (Nat.lt_of_lt_of_le HNB.out.2 hB18.size))
          have HR1 := Lib.hid (HR1.out.below hB18)
          have HE1v := Lib.hid (HE1v.out.below hB18)
          have HBW := Lib.hid (HBW.out.trans (hB18.mono HBW.out.size))
          have HR2 := Lib.hid hR2
          have HE2v := Lib.hid hE2
          clear hB18 hR2 hE2 z3 z4 z5
          have HCI : Hid (∀ W : World, RdInts W A2 r2 E1 → Calls Try.prog 10 #[.slice A2 M d2, .int .i64 x] W fun e w' => ∃ A5 d5, e = .returned (.slice A5 M d5) ∧ M ≤ d5 ∧ Kd.C (Kd.int .i64) w' A5 M E2 ∧ Below W.heap.size W w') := fun W h1 => by
            have h := ignitiontop_aroundInts.calls _ A2 d2 E1 x E2 W (h1.C (by rw [HE1.out]; omega)) (by rw [HE1.out]; exact hd2) HAI.out
            rw [HE1.out] at h
            refine h.mono ?_
            rintro e w' ⟨v, rfl, hR, hB⟩
            obtain ⟨A5, d5, rfl, hl5, hC5⟩ := Kd.R_reads hR
            rw [HE2.out] at hl5 hC5 ⊢
            exact ⟨A5, d5, rfl, hl5, hC5, hB⟩
          have HCS : Hid (∀ (W : World) (A5 : Option Addr) (d5 : Nat), M ≤ d5 → Kd.C (Kd.int .i64) W A5 M E2 → RdInts W A4 r4 E2 → Calls Try.prog 9 #[.slice A5 M d5, .slice A4 M d4] W fun e w' => e = .returned (.bool true) ∧ Below W.heap.size W w') := fun W A5 d5 h1 h2 h3 => by
            have h := ignitiontop_sameInts.calls _ A5 d5 E2 A4 d4 E2 true W (by rw [HE2.out]; exact h2) (by rw [HE2.out]; exact h1) (h3.C (by rw [HE2.out]; omega)) (by rw [HE2.out]; exact hd4) HSI.out
            rw [HE2.out] at h
            exact h.mono (fun e w' h => ⟨h.1, h.2.below⟩)
          go_wp2_with fail
          refine (HCI.out _ HE1v.out).mono ?_
          rintro e w19 ⟨A5, d5, rfl, hd5, hC5, hB19⟩
          have HL := Lib.hid (HL.out.below hB19)
          have HNA := Lib.hid (And.intro (NgAt.keep HNA.out.1 (fun o => below_at hB19 HNA.out.2)) (Nat.lt_of_lt_of_le HNA.out.2 hB19.size))
          have HNB := Lib.hid (And.intro (NgAt.keep HNB.out.1 (fun o => below_at hB19 HNB.out.2)) (Nat.lt_of_lt_of_le HNB.out.2 hB19.size))
          have HR1 := Lib.hid (HR1.out.below hB19)
          have HR2 := Lib.hid (HR2.out.below hB19)
          have HE2v := Lib.hid (HE2v.out.below hB19)
          have HBW := Lib.hid (HBW.out.trans (hB19.mono HBW.out.size))
          have HC5 := Lib.hid hC5
          clear hB19 hC5
          go_wp2_with fail
          refine (HCS.out _ A5 d5 hd5 HC5.out HE2v.out).mono ?_
          rintro e w20 ⟨rfl, hB20⟩
          have HL := Lib.hid (HL.out.below hB20)
          have HNA := Lib.hid (And.intro (NgAt.keep HNA.out.1 (fun o => below_at hB20 HNA.out.2)) (Nat.lt_of_lt_of_le HNA.out.2 hB20.size))
          have HNB := Lib.hid (And.intro (NgAt.keep HNB.out.1 (fun o => below_at hB20 HNB.out.2)) (Nat.lt_of_lt_of_le HNB.out.2 hB20.size))
          have HR1 := Lib.hid (HR1.out.below hB20)
          have HR2 := Lib.hid (HR2.out.below hB20)
          have HBW := Lib.hid (HBW.out.trans (hB20.mono HBW.out.size))
          clear hB20 HC5
          go_wp2_with fail
          have HLq := HL
          go_loopw [30] (fun i wr => ∃ k : Nat, k ≤ N ∧ i = .int .i64 k ∧ Below w20.heap.size w20 wr) (fun i _ => N - (intOf i).toNat)
          case atStart => exact ⟨0, Nat.zero_le _, rfl, Below.refl _ _⟩
          case round =>
            obtain ⟨k, hk, rfl, hBr⟩ := hrel
            obtain ⟨wk, rfl⟩ : ∃ wk : World, wk = wr := ⟨_, rfl⟩
            by_cases hlt : k < N
            · obtain ⟨u, hu⟩ : ∃ u, R1[k]? = some u := ⟨_, List.getElem?_eq_getElem (by rw [HR1L.out]; exact hlt)⟩
              obtain ⟨v, hv, ht, hb⟩ := HROW.out k u hu
              obtain ⟨r, hr, hrt⟩ := aroundBits_all (n := n) (x := x) hx1 (show n ≤ 16 by omega) u (hb.le (show n ≤ 16 by omega))
              obtain rfl : v = r := (turn_unique hx1 (show n ≤ 16 by omega) hrt ht).symm
              have HAB := Lib.hid hr
              have hRa := HR1.out.below hBr
              have hRb := HR2.out.below hBr
              have x1 : wk.cell? ⟨r1, k, none⟩ = some (.int .i64 u) := hRa.hc k u hu
              have x2 : wk.cell? ⟨r3, k, none⟩ = some (.int .i64 v) := hRb.hc k v hv
              obtain rfl := hRa.hA (by rw [HR1L.out]; omega)
              obtain rfl := hRb.hA (Nat.lt_of_le_of_lt (Nat.zero_le k) (List.getElem?_eq_some_iff.1 hv).1)
              clear hu hv ht hb hr hrt hRa hRb
              go_wp2_with fail
              refine wp_calm ?_
              refine start_ (n := 12) (S := fun w' => w'.cell? ⟨r1, k, none⟩ = some (.int .i64 u) ∧ w'.cell? ⟨r3, k, none⟩ = some (.int .i64 v)) (ds := []) #[false, false, false, false, false, false, false, false, false, false, false, false] (by kernel_rfl) rfl rfl ⟨x1, x2⟩ (fun hHeld => ?_)
              refine pure_ (i := 0) (N := some 228) (v := ?_) (a' := ?_) #[true, false, false, false, false, false, false, false, false, false, false, false] rfl rfl (by kernel_rfl) (fun _ _ _ h => h) (Or.inl ⟨by rfl, ?_⟩) ?_ ?_
              rotate_left
              · intro w'
                go_simp
                with_reducible rfl
              rotate_left
              · simp only [Act.put, List.setIfInBounds_toArray, List.set_cons_zero, List.set_cons_succ, i64_w, i32_w]
                rfl
              refine pure_ (i := 1) (N := some 229) (v := ?_) (a' := ?_) #[true, true, false, false, false, false, false, false, false, false, false, false] rfl rfl (by kernel_rfl) (fun _ _ _ h => h) (Or.inl ⟨by rfl, ?_⟩) ?_ ?_
              rotate_left
              · intro w'
                go_simp
                with_reducible rfl
              rotate_left
              · simp only [Act.put, List.setIfInBounds_toArray, List.set_cons_zero, List.set_cons_succ, i64_w, i32_w]
                rfl
              refine pure_ (i := 2) (N := some 230) (v := ?_) (a' := ?_) #[true, true, true, false, false, false, false, false, false, false, false, false] rfl rfl (by kernel_rfl) (fun _ _ _ h => h) (Or.inl ⟨by rfl, ?_⟩) ?_ ?_
              rotate_left
              · intro w'
                go_simp
                with_reducible rfl
              rotate_left
              · simp only [Act.put, List.setIfInBounds_toArray, List.set_cons_zero, List.set_cons_succ, i64_w, i32_w]
                rfl
              refine pure_ (i := 4) (N := some 232) (v := ?_) (a' := ?_) #[true, true, true, false, true, false, false, false, false, false, false, false] rfl rfl (by kernel_rfl) (fun _ _ _ h => h) (Or.inl ⟨by rfl, ?_⟩) ?_ ?_
              rotate_left
              · intro w'
                go_simp
                with_reducible rfl
              rotate_left
              · simp only [Act.put, List.setIfInBounds_toArray, List.set_cons_zero, List.set_cons_succ, i64_w, i32_w]
                rfl
              refine pure_ (i := 5) (N := some 233) (v := ?_) (a' := ?_) #[true, true, true, false, true, true, false, false, false, false, false, false] rfl rfl (by kernel_rfl) (fun _ _ _ h => h) (Or.inl ⟨by rfl, ?_⟩) ?_ ?_
              rotate_left
              · intro w'
                go_simp
                with_reducible rfl
              rotate_left
              · simp only [Act.put, List.setIfInBounds_toArray, List.set_cons_zero, List.set_cons_succ, i64_w, i32_w]
                rfl
              refine pure_ (i := 7) (N := some 235) (v := ?_) (a' := ?_) #[true, true, true, false, true, true, false, true, false, false, false, false] rfl rfl (by kernel_rfl) (fun _ _ _ h => h) (Or.inl ⟨by rfl, ?_⟩) ?_ ?_
              rotate_left
              · intro w'
                go_simp
                with_reducible rfl
              rotate_left
              · simp only [Act.put, List.setIfInBounds_toArray, List.set_cons_zero, List.set_cons_succ, i64_w, i32_w]
                rfl
              refine pure_ (i := 8) (N := some 236) (v := ?_) (a' := ?_) #[true, true, true, false, true, true, false, true, true, false, false, false] rfl rfl (by kernel_rfl) (fun _ _ _ h => h) (Or.inl ⟨by rfl, ?_⟩) ?_ ?_
              rotate_left
              · intro w'
                go_simp
                with_reducible rfl
              rotate_left
              · simp only [Act.put, List.setIfInBounds_toArray, List.set_cons_zero, List.set_cons_succ, i64_w, i32_w]
                rfl
              refine pure_ (i := 9) (N := some 237) (v := ?_) (a' := ?_) #[true, true, true, false, true, true, false, true, true, true, false, false] rfl rfl (by kernel_rfl) (fun _ _ _ h => h) (Or.inl ⟨by rfl, ?_⟩) ?_ ?_
              rotate_left
              · intro w'
                go_simp
                with_reducible rfl
              rotate_left
              · simp only [Act.put, List.setIfInBounds_toArray, List.set_cons_zero, List.set_cons_succ, i64_w, i32_w]
                rfl
              refine take_ (i := 3) (N := some 231) (v := ?_) (a' := ?_) #[true, true, true, true, true, true, false, true, true, true, false, false] rfl rfl (by kernel_rfl) (fun _ _ _ h => h) (Or.inl ⟨by rfl, ?_⟩) hHeld ?_ ?_
              rotate_left
              · rintro w' ⟨s0, s1⟩
                go_simp
                with_reducible rfl
              rotate_left
              · simp only [Act.put, List.setIfInBounds_toArray, List.set_cons_zero, List.set_cons_succ, i64_w, i32_w]
                rfl
              refine take_ (i := 10) (N := some 238) (v := ?_) (a' := ?_) #[true, true, true, true, true, true, false, true, true, true, true, false] rfl rfl (by kernel_rfl) (fun _ _ _ h => h) (Or.inl ⟨by rfl, ?_⟩) hHeld ?_ ?_
              rotate_left
              · rintro w' ⟨s0, s1⟩
                go_simp
                with_reducible rfl
              rotate_left
              · simp only [Act.put, List.setIfInBounds_toArray, List.set_cons_zero, List.set_cons_succ, i64_w, i32_w]
                rfl
              refine one_ (i := 6) (N := some 234) #[true, true, true, true, true, true, true, true, true, true, true, false] rfl rfl (by kernel_rfl) (by decide) (fun K hK => ?_)
              refine goes_ Try.func7 (by kernel_rfl) rfl #[.int .i64 u, .int .i64 x, .int .i64 n] (by rfl) rfl rfl (by simp only [List.map_toArray, List.map_cons, List.map_nil]; rfl) ?_
              with_reducible refine (ignitiontop_aroundBits.calls _ u x n v _ HAB.out).mono ?_
              rintro e V33 ⟨rfl, hD33⟩
              refine ⟨_, rfl, ?_⟩
              have hV := hD33.below
              refine hK.out _ _ ⟨pw_cell_below hV hHeld.1, pw_cell_below hV hHeld.2⟩ (fun hHeld => ?_)
              clear hK K
              refine norm_ (a' := ?_) ?_ ?_
              rotate_left
              · show Act.put _ (some 234) _ = _
                simp only [Act.put, List.setIfInBounds_toArray, List.set_cons_zero, List.set_cons_succ, i64_w, i32_w]
                rfl
              refine pure_ (i := 11) (N := some 239) (v := ?_) (a' := ?_) #[true, true, true, true, true, true, true, true, true, true, true, true] rfl rfl (by kernel_rfl) (fun _ _ _ h => h) (Or.inl ⟨by rfl, ?_⟩) ?_ ?_
              rotate_left
              · intro w'
                go_simp
                with_reducible rfl
              rotate_left
              · simp only [Act.put, List.setIfInBounds_toArray, List.set_cons_zero, List.set_cons_succ, i64_w, i32_w]
                rfl
              refine done_ (by kernel_rfl) ?_
              refine calm_normal ?_
              go_wp2_with fail
              exact ⟨⟨k + 1, by omega, by simp, hBr.trans ((((Below.refl _ wk).drew).trans hV).mono hBr.size)⟩, by simp [intOf]; omega⟩
            · obtain rfl : N = k := by omega
              have HL := Lib.hid (HL.out.below hBr)
              have HNA := Lib.hid (And.intro (NgAt.keep HNA.out.1 (fun o => below_at hBr HNA.out.2)) (Nat.lt_of_lt_of_le HNA.out.2 hBr.size))
              have HNB := Lib.hid (And.intro (NgAt.keep HNB.out.1 (fun o => below_at hBr HNB.out.2)) (Nat.lt_of_lt_of_le HNB.out.2 hBr.size))
              have HR1 := Lib.hid (HR1.out.below hBr)
              have HR2 := Lib.hid (HR2.out.below hBr)
              have HBW := Lib.hid (HBW.out.trans (hBr.mono HBW.out.size))
              clear hBr hk
              have z0 : wk.cell? ⟨a1, 0, none⟩ = some (.int .i64 G) := (blk_cell' HL.out.boxa 0).trans rfl
              have z1 : wk.cell? ⟨a1, 1, none⟩ = some (.int .i64 η) := (blk_cell' HL.out.boxa 1).trans rfl
              have z2 : wk.cell? ⟨a1, 2, none⟩ = some (.slice (some ⟨g1, 0, none⟩) n cap1) := (blk_cell' HL.out.boxa 2).trans rfl
              go_wp2_with fail
              refine (HQa.out _ HL.out.cla HNA.out.1 HNA.out.2).mono ?_
              rintro e w21 ⟨A6, r5, d6, rfl, hd6, hQ1, hBx⟩
              have HL := Lib.hid (HL.out.below hBx)
              have HNA := Lib.hid (And.intro (NgAt.keep HNA.out.1 (fun o => below_at hBx HNA.out.2)) (Nat.lt_of_lt_of_le HNA.out.2 hBx.size))
              have HNB := Lib.hid (And.intro (NgAt.keep HNB.out.1 (fun o => below_at hBx HNB.out.2)) (Nat.lt_of_lt_of_le HNB.out.2 hBx.size))
              have HBW := Lib.hid (HBW.out.trans (hBx.mono HBW.out.size))
              clear hBx z0 z1 z2
              have HQ1v := Lib.hid hQ1
              clear hQ1
              have z3 : w21.cell? ⟨b1, 0, none⟩ = some (.int .i64 G) := (blk_cell' HL.out.boxb 0).trans rfl
              have z4 : w21.cell? ⟨b1, 1, none⟩ = some (.int .i64 η) := (blk_cell' HL.out.boxb 1).trans rfl
              have z5 : w21.cell? ⟨b1, 2, none⟩ = some (.slice (some ⟨gB, 0, none⟩) n n) := (blk_cell' HL.out.boxb 2).trans rfl
              go_wp2_with fail
              refine (HQb.out _ HL.out.clb HNB.out.1 HNB.out.2).mono ?_
              rintro e w22 ⟨A7, r6, d7, rfl, hd7, hQ2, hBx⟩
              have HL := Lib.hid (HL.out.below hBx)
              have HNA := Lib.hid (And.intro (NgAt.keep HNA.out.1 (fun o => below_at hBx HNA.out.2)) (Nat.lt_of_lt_of_le HNA.out.2 hBx.size))
              have HNB := Lib.hid (And.intro (NgAt.keep HNB.out.1 (fun o => below_at hBx HNB.out.2)) (Nat.lt_of_lt_of_le HNB.out.2 hBx.size))
              have HQ1v := Lib.hid (HQ1v.out.below hBx)
              have HBW := Lib.hid (HBW.out.trans (hBx.mono HBW.out.size))
              clear hBx z3 z4 z5
              have HQ2v := Lib.hid hQ2
              clear hQ2
              have z0 : w22.cell? ⟨a1, 0, none⟩ = some (.int .i64 G) := (blk_cell' HL.out.boxa 0).trans rfl
              have z1 : w22.cell? ⟨a1, 1, none⟩ = some (.int .i64 η) := (blk_cell' HL.out.boxa 1).trans rfl
              have z2 : w22.cell? ⟨a1, 2, none⟩ = some (.slice (some ⟨g1, 0, none⟩) n cap1) := (blk_cell' HL.out.boxa 2).trans rfl
              go_wp2_with fail
              refine (HFa.out _ HL.out.cla HNA.out.1 HNA.out.2).mono ?_
              rintro e w23 ⟨t, i1, rfl, hf1, hBx⟩
              have HL := Lib.hid (HL.out.below hBx)
              have HNA := Lib.hid (And.intro (NgAt.keep HNA.out.1 (fun o => below_at hBx HNA.out.2)) (Nat.lt_of_lt_of_le HNA.out.2 hBx.size))
              have HNB := Lib.hid (And.intro (NgAt.keep HNB.out.1 (fun o => below_at hBx HNB.out.2)) (Nat.lt_of_lt_of_le HNB.out.2 hBx.size))
              have HQ1v := Lib.hid (HQ1v.out.below hBx)
              have HQ2v := Lib.hid (HQ2v.out.below hBx)
              have HBW := Lib.hid (HBW.out.trans (hBx.mono HBW.out.size))
              clear hBx z0 z1 z2
              have HF1 := Lib.hid hf1
              clear hf1
              have z3 : w23.cell? ⟨b1, 0, none⟩ = some (.int .i64 G) := (blk_cell' HL.out.boxb 0).trans rfl
              have z4 : w23.cell? ⟨b1, 1, none⟩ = some (.int .i64 η) := (blk_cell' HL.out.boxb 1).trans rfl
              have z5 : w23.cell? ⟨b1, 2, none⟩ = some (.slice (some ⟨gB, 0, none⟩) n n) := (blk_cell' HL.out.boxb 2).trans rfl
              go_wp2_with fail
              refine (HFb.out _ HL.out.clb HNB.out.1 HNB.out.2).mono ?_
              rintro e w24 ⟨t', i2, rfl, hf2, hBx⟩
              have HL := Lib.hid (HL.out.below hBx)
              have HNA := Lib.hid (And.intro (NgAt.keep HNA.out.1 (fun o => below_at hBx HNA.out.2)) (Nat.lt_of_lt_of_le HNA.out.2 hBx.size))
              have HNB := Lib.hid (And.intro (NgAt.keep HNB.out.1 (fun o => below_at hBx HNB.out.2)) (Nat.lt_of_lt_of_le HNB.out.2 hBx.size))
              have HQ1v := Lib.hid (HQ1v.out.below hBx)
              have HQ2v := Lib.hid (HQ2v.out.below hBx)
              have HBW := Lib.hid (HBW.out.trans (hBx.mono HBW.out.size))
              clear hBx z3 z4 z5
              obtain rfl : t = t' := (fail_same H2.out T ls (by rw [HH.out]; exact HF1.out) (by rw [HH.out]; exact hf2)).symm
              clear hf2
              go_wp2_with fail
              have HR1 := HQ1v
              have HR2 := HQ2v
              have HLq := HL
              go_loopw [39] (fun i wr => ∃ k : Nat, k ≤ L ∧ i = .int .i64 k ∧ Below w24.heap.size w24 wr) (fun i _ => L - (intOf i).toNat)
              case atStart => exact ⟨0, Nat.zero_le _, rfl, Below.refl _ _⟩
              case round =>
                obtain ⟨k, hk, rfl, hBr⟩ := hrel
                obtain ⟨wk, rfl⟩ : ∃ wk : World, wk = wr := ⟨_, rfl⟩
                by_cases hlt : k < L
                · obtain ⟨u, hu⟩ : ∃ u, Q1[k]? = some u := ⟨_, List.getElem?_eq_getElem (by rw [HQ1L.out]; exact hlt)⟩
                  obtain ⟨v, hv, ht, hb⟩ := HASK.out k u hu
                  obtain ⟨r, hr, hrt⟩ := aroundBits_all (n := G) (x := y) (fun _ => hy1) (show G ≤ 16 by omega) u (hb.le (show G ≤ 16 by omega))
                  obtain rfl : v = r := (turn_unique (fun _ => hy1) (show G ≤ 16 by omega) hrt ht).symm
                  have HAB := Lib.hid hr
                  have hRa := HR1.out.below hBr
                  have hRb := HR2.out.below hBr
                  have x1 : wk.cell? ⟨r5, k, none⟩ = some (.int .i64 u) := hRa.hc k u hu
                  have x2 : wk.cell? ⟨r6, k, none⟩ = some (.int .i64 v) := hRb.hc k v hv
                  obtain rfl := hRa.hA (by rw [HQ1L.out]; omega)
                  obtain rfl := hRb.hA (Nat.lt_of_le_of_lt (Nat.zero_le k) (List.getElem?_eq_some_iff.1 hv).1)
                  have x3 : wk.cell? ⟨w.heap.size, 0, none⟩ = some (.int .i64 G) := (blk_cell' (HL.out.below hBr).box 0).trans rfl
                  clear hu hv ht hb hr hrt hRa hRb
                  go_wp2_with fail
                  refine wp_calm ?_
                  refine start_ (n := 13) (S := fun w' => w'.cell? ⟨r5, k, none⟩ = some (.int .i64 u) ∧ w'.cell? ⟨r6, k, none⟩ = some (.int .i64 v) ∧ w'.cell? ⟨w.heap.size, 0, none⟩ = some (.int .i64 G)) (ds := []) #[false, false, false, false, false, false, false, false, false, false, false, false, false] (by kernel_rfl) rfl rfl ⟨x1, x2, x3⟩ (fun hHeld => ?_)
                  refine pure_ (i := 0) (N := some 296) (v := ?_) (a' := ?_) #[true, false, false, false, false, false, false, false, false, false, false, false, false] rfl rfl (by kernel_rfl) (fun _ _ _ h => h) (Or.inl ⟨by rfl, ?_⟩) ?_ ?_
                  rotate_left
                  · intro w'
                    go_simp
                    with_reducible rfl
                  rotate_left
                  · simp only [Act.put, List.setIfInBounds_toArray, List.set_cons_zero, List.set_cons_succ, i64_w, i32_w]
                    rfl
                  refine pure_ (i := 1) (N := some 297) (v := ?_) (a' := ?_) #[true, true, false, false, false, false, false, false, false, false, false, false, false] rfl rfl (by kernel_rfl) (fun _ _ _ h => h) (Or.inl ⟨by rfl, ?_⟩) ?_ ?_
                  rotate_left
                  · intro w'
                    go_simp
                    with_reducible rfl
                  rotate_left
                  · simp only [Act.put, List.setIfInBounds_toArray, List.set_cons_zero, List.set_cons_succ, i64_w, i32_w]
                    rfl
                  refine pure_ (i := 2) (N := some 298) (v := ?_) (a' := ?_) #[true, true, true, false, false, false, false, false, false, false, false, false, false] rfl rfl (by kernel_rfl) (fun _ _ _ h => h) (Or.inl ⟨by rfl, ?_⟩) ?_ ?_
                  rotate_left
                  · intro w'
                    go_simp
                    with_reducible rfl
                  rotate_left
                  · simp only [Act.put, List.setIfInBounds_toArray, List.set_cons_zero, List.set_cons_succ, i64_w, i32_w]
                    rfl
                  refine pure_ (i := 4) (N := some 300) (v := ?_) (a' := ?_) #[true, true, true, false, true, false, false, false, false, false, false, false, false] rfl rfl (by kernel_rfl) (fun _ _ _ h => h) (Or.inl ⟨by rfl, ?_⟩) ?_ ?_
                  rotate_left
                  · intro w'
                    go_simp
                    with_reducible rfl
                  rotate_left
                  · simp only [Act.put, List.setIfInBounds_toArray, List.set_cons_zero, List.set_cons_succ, i64_w, i32_w]
                    rfl
                  refine pure_ (i := 5) (N := some 301) (v := ?_) (a' := ?_) #[true, true, true, false, true, true, false, false, false, false, false, false, false] rfl rfl (by kernel_rfl) (fun _ _ _ h => h) (Or.inl ⟨by rfl, ?_⟩) ?_ ?_
                  rotate_left
                  · intro w'
                    go_simp
                    with_reducible rfl
                  rotate_left
                  · simp only [Act.put, List.setIfInBounds_toArray, List.set_cons_zero, List.set_cons_succ, i64_w, i32_w]
                    rfl
                  refine pure_ (i := 8) (N := some 304) (v := ?_) (a' := ?_) #[true, true, true, false, true, true, false, false, true, false, false, false, false] rfl rfl (by kernel_rfl) (fun _ _ _ h => h) (Or.inl ⟨by rfl, ?_⟩) ?_ ?_
                  rotate_left
                  · intro w'
                    go_simp
                    with_reducible rfl
                  rotate_left
                  · simp only [Act.put, List.setIfInBounds_toArray, List.set_cons_zero, List.set_cons_succ, i64_w, i32_w]
                    rfl
                  refine pure_ (i := 9) (N := some 305) (v := ?_) (a' := ?_) #[true, true, true, false, true, true, false, false, true, true, false, false, false] rfl rfl (by kernel_rfl) (fun _ _ _ h => h) (Or.inl ⟨by rfl, ?_⟩) ?_ ?_
                  rotate_left
                  · intro w'
                    go_simp
                    with_reducible rfl
                  rotate_left
                  · simp only [Act.put, List.setIfInBounds_toArray, List.set_cons_zero, List.set_cons_succ, i64_w, i32_w]
                    rfl
                  refine pure_ (i := 10) (N := some 306) (v := ?_) (a' := ?_) #[true, true, true, false, true, true, false, false, true, true, true, false, false] rfl rfl (by kernel_rfl) (fun _ _ _ h => h) (Or.inl ⟨by rfl, ?_⟩) ?_ ?_
                  rotate_left
                  · intro w'
                    go_simp
                    with_reducible rfl
                  rotate_left
                  · simp only [Act.put, List.setIfInBounds_toArray, List.set_cons_zero, List.set_cons_succ, i64_w, i32_w]
                    rfl
                  refine take_ (i := 3) (N := some 299) (v := ?_) (a' := ?_) #[true, true, true, true, true, true, false, false, true, true, true, false, false] rfl rfl (by kernel_rfl) (fun _ _ _ h => h) (Or.inl ⟨by rfl, ?_⟩) hHeld ?_ ?_
                  rotate_left
                  · rintro w' ⟨s0, s1, s2⟩
                    go_simp
                    with_reducible rfl
                  rotate_left
                  · simp only [Act.put, List.setIfInBounds_toArray, List.set_cons_zero, List.set_cons_succ, i64_w, i32_w]
                    rfl
                  refine take_ (i := 6) (N := some 302) (v := ?_) (a' := ?_) #[true, true, true, true, true, true, true, false, true, true, true, false, false] rfl rfl (by kernel_rfl) (fun _ _ _ h => h) (Or.inl ⟨by rfl, ?_⟩) hHeld ?_ ?_
                  rotate_left
                  · rintro w' ⟨s0, s1, s2⟩
                    go_simp
                    with_reducible rfl
                  rotate_left
                  · simp only [Act.put, List.setIfInBounds_toArray, List.set_cons_zero, List.set_cons_succ, i64_w, i32_w]
                    rfl
                  refine take_ (i := 11) (N := some 307) (v := ?_) (a' := ?_) #[true, true, true, true, true, true, true, false, true, true, true, true, false] rfl rfl (by kernel_rfl) (fun _ _ _ h => h) (Or.inl ⟨by rfl, ?_⟩) hHeld ?_ ?_
                  rotate_left
                  · rintro w' ⟨s0, s1, s2⟩
                    go_simp
                    with_reducible rfl
                  rotate_left
                  · simp only [Act.put, List.setIfInBounds_toArray, List.set_cons_zero, List.set_cons_succ, i64_w, i32_w]
                    rfl
                  refine one_ (i := 7) (N := some 303) #[true, true, true, true, true, true, true, true, true, true, true, true, false] rfl rfl (by kernel_rfl) (by decide) (fun K hK => ?_)
                  refine goes_ Try.func7 (by kernel_rfl) rfl #[.int .i64 u, .int .i64 y, .int .i64 G] (by rfl) rfl rfl (by simp only [List.map_toArray, List.map_cons, List.map_nil]; rfl) ?_
                  with_reducible refine (ignitiontop_aroundBits.calls _ u y G v _ HAB.out).mono ?_
                  rintro e V33 ⟨rfl, hD33⟩
                  refine ⟨_, rfl, ?_⟩
                  have hV := hD33.below
                  refine hK.out _ _ ⟨pw_cell_below hV hHeld.1, pw_cell_below hV hHeld.2.1, pw_cell_below hV hHeld.2.2⟩ (fun hHeld => ?_)
                  clear hK K
                  refine norm_ (a' := ?_) ?_ ?_
                  rotate_left
                  · show Act.put _ (some 303) _ = _
                    simp only [Act.put, List.setIfInBounds_toArray, List.set_cons_zero, List.set_cons_succ, i64_w, i32_w]
                    rfl
                  refine pure_ (i := 12) (N := some 308) (v := ?_) (a' := ?_) #[true, true, true, true, true, true, true, true, true, true, true, true, true] rfl rfl (by kernel_rfl) (fun _ _ _ h => h) (Or.inl ⟨by rfl, ?_⟩) ?_ ?_
                  rotate_left
                  · intro w'
                    go_simp
                    with_reducible rfl
                  rotate_left
                  · simp only [Act.put, List.setIfInBounds_toArray, List.set_cons_zero, List.set_cons_succ, i64_w, i32_w]
                    rfl
                  refine done_ (by kernel_rfl) ?_
                  refine calm_normal ?_
                  go_wp2_with fail
                  exact ⟨⟨k + 1, by omega, by simp, hBr.trans ((((Below.refl _ wk).drew).trans hV).mono hBr.size)⟩, by simp [intOf]; omega⟩
                · obtain rfl : L = k := by omega
                  have HL := Lib.hid (HL.out.below hBr)
                  have HNA := Lib.hid (And.intro (NgAt.keep HNA.out.1 (fun o => below_at hBr HNA.out.2)) (Nat.lt_of_lt_of_le HNA.out.2 hBr.size))
                  have HNB := Lib.hid (And.intro (NgAt.keep HNB.out.1 (fun o => below_at hBr HNB.out.2)) (Nat.lt_of_lt_of_le HNB.out.2 hBr.size))
                  have HBW := Lib.hid (HBW.out.trans (hBr.mono HBW.out.size))
                  clear hBr hk
                  have HSL : Hid (∀ W : World, ClAt W (some ⟨g1, 0, none⟩) g1 0 la → ClAt W (some ⟨gB, 0, none⟩) gB 0 lb → Calls Try.prog 13 #[.agg #[.int .i64 G, .int .i64 η, .slice (some ⟨g1, 0, none⟩) n cap1], .agg #[.int .i64 G, .int .i64 η, .slice (some ⟨gB, 0, none⟩) n n], .int .i64 T, .int .i64 x, .int .i64 y, .int .i64 need] W fun e w' => e = .returned (.bool true) ∧ Below W.heap.size W w') := fun W h1 h2 => by
                    have h := alike_any H2.out hle1 (Nat.le_refl n) T need W h1 h2
                    rw [HH.out] at h
                    exact h
                  have z0 : wk.cell? ⟨a1, 0, none⟩ = some (.int .i64 G) := (blk_cell' HL.out.boxa 0).trans rfl
                  have z1 : wk.cell? ⟨a1, 1, none⟩ = some (.int .i64 η) := (blk_cell' HL.out.boxa 1).trans rfl
                  have z2 : wk.cell? ⟨a1, 2, none⟩ = some (.slice (some ⟨g1, 0, none⟩) n cap1) := (blk_cell' HL.out.boxa 2).trans rfl
                  have z3 : wk.cell? ⟨b1, 0, none⟩ = some (.int .i64 G) := (blk_cell' HL.out.boxb 0).trans rfl
                  have z4 : wk.cell? ⟨b1, 1, none⟩ = some (.int .i64 η) := (blk_cell' HL.out.boxb 1).trans rfl
                  have z5 : wk.cell? ⟨b1, 2, none⟩ = some (.slice (some ⟨gB, 0, none⟩) n n) := (blk_cell' HL.out.boxb 2).trans rfl
                  go_wp2_with fail
                  refine (HSL.out _ HL.out.cla HL.out.clb).mono ?_
                  rintro e w30 ⟨rfl, hB30⟩
                  have HBW := Lib.hid (HBW.out.trans (hB30.mono HBW.out.size))
                  go_wp2_with fail
                  refine (example_any _).mono ?_
                  rintro e w31 ⟨rfl, hB31⟩
                  go_wp2_with fail
                  go_ret
                  exact ⟨rfl, HBW.out.trans (hB31.mono HBW.out.size)⟩
end Go.Proofs.Ytiglkpgoakibaab
