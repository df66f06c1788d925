/- The law's second half (sleepsAlike): the walk: it holds. Conditions: both clusters are valid, one is the other turned on. -/
import Derived.Test.YtiglkpgoakibaabEquis
import Derived.Test.YtiglkpgoakibaabExmW
namespace Go.Proofs.Ytiglkpgoakibaab
open Go.RowKit Go.Shelf PTopRegrouped Go.Proofs.YtiglkpgoakibaabW.PrintWords Go.Proofs.YtiglkpgoakibaabW.PrintLast
attribute [local go_sem] Oper.semAt_some
set_option linter.unusedSimpArgs false

theorem aroundBits_all {n x : Nat} (hx : 0 < n → x < n) (hn : n ≤ 16) (v : Int) (hv : Bd 16 v) : ∃ r, ignitiontop_aroundBits.f (n + 1) v x n = some r ∧ IsTurn n x v r := by
  by_cases h0 : n = 0
  · subst h0
    refine ⟨0, ?_, bd_zero 0, fun i hi => by omega⟩
    unfold ignitiontop_aroundBits.f
    rw [ignitiontop_aroundBits.l0, if_neg (by omega)]
  · exact aroundBits_ok (hx (by omega)) hn v hv
theorem turn_unique {n x : Nat} (hx : 0 < n → x < n) (hn : n ≤ 16) {v r r' : Int} (h : IsTurn n x v r) (h' : IsTurn n x v r') : r = r' :=
  bd_ext h.bd h'.bd hn (fun j hj => by
    obtain ⟨i, hi, rfl⟩ := rot_surj (hx (by omega)) hj
    rw [h.at_ i hi, h'.at_ i hi])
theorem wrap_idem (a : Int) : wrap64 (wrap64 a) = wrap64 a := by unfold wrap64; omega
theorem Bd.le {n : Nat} {v : Int} (h : Bd n v) (hn : n ≤ 16) : Bd 16 v := ⟨h.1, by
  have h2 : (2 : Int) ^ n ≤ 2 ^ 16 := by
    have := Nat.pow_le_pow_right (n := 2) (by omega) hn
    exact_mod_cast this
  have := h.2
  omega⟩
/-- Two clusters, as the law has them. -/
structure Two (n x G y hold : Nat) (la lb : List S31) : Prop where
  n16 : n ≤ 16
  G0 : 1 ≤ G
  G8 : G ≤ 8
  x1 : 0 < n → x < n
  x2 : x ≤ 1000
  y1 : y < G
  cl : ClT n x G y la lb
  ka : ClOk G hold la
  kb : ClOk G hold lb

set_option maxRecDepth 100000 in
set_option maxHeartbeats 2000000 in
theorem alike_any {n x G y hold : Nat} {la lb : List S31} (h2 : Two n x G y hold la lb) {A B : Option Addr} {b off c b' off' c' : Nat} (hca : n ≤ c) (hcb : n ≤ c') (T need : Int) (w : World) (ha : ClAt w A b off la) (hb : ClAt w B b' off' lb) :
    Calls Try.prog 13 #[.agg #[.int .i64 G, .int .i64 hold, .slice A n c], .agg #[.int .i64 G, .int .i64 hold, .slice B n c'], .int .i64 T, .int .i64 x, .int .i64 y, .int .i64 need] w fun e w' => e = .returned (.bool true) ∧ Below w.heap.size w w' := by
  have hu24 := Try.underlying24
  have hn16 := h2.n16
  have hG0 := h2.G0
  have hG8 := h2.G8
  have hlA := h2.cl.la
  have hlB := h2.cl.lb
  obtain ⟨η, hη⟩ : ∃ η : Int, (hold : Int) = η := ⟨_, rfl⟩
  obtain ⟨⟨m, e⟩, hme⟩ : ∃ z, parkedR la hold T = z := ⟨_, rfl⟩
  obtain ⟨c10, hc10⟩ : ∃ c10, wrap64 (10 * m) = c10 := ⟨_, rfl⟩
  obtain ⟨⟨s, g⟩, hsg⟩ : ∃ z, lastsR la hold c10 = z := ⟨_, rfl⟩
  have HPa : Hid (∀ W : World, ClAt W A b off la → Calls Try.prog 15 #[.agg #[.int .i64 G, .int .i64 η, .slice A n c], .int .i64 T] W fun e' w' => e' = .returned (.tuple #[.int .i64 m, .int .i64 e]) ∧ Below W.heap.size W w') := fun W hW => by
    have h := parked_any h2.ka (by omega) T W hW (c := c)
    rw [hme, hη, hlA] at h
    exact h
  have HPb : Hid (∀ W : World, ClAt W B b' off' lb → Calls Try.prog 15 #[.agg #[.int .i64 G, .int .i64 η, .slice B n c'], .int .i64 T] W fun e' w' => e' = .returned (.tuple #[.int .i64 m, .int .i64 e]) ∧ Below W.heap.size W w') := fun W hW => by
    have h := parked_any h2.kb (by omega) T W hW (c := c')
    rw [parked_turn h2.x1 h2.cl, hme, hη, hlB] at h
    exact h
  have HLa : Hid (∀ W : World, ClAt W A b off la → Calls Try.prog 19 #[.agg #[.int .i64 G, .int .i64 η, .slice A n c], .int .i64 c10] W fun e' w' => e' = .returned (.tuple #[.int .i64 s, .int .i64 g]) ∧ Below W.heap.size W w') := fun W hW => by
    have h := lasts_any h2.ka (by omega) c10 W hW (c := c)
    rw [hsg, hη, hlA] at h
    exact h
  have HLb : Hid (∀ W : World, ClAt W B b' off' lb → Calls Try.prog 19 #[.agg #[.int .i64 G, .int .i64 η, .slice B n c'], .int .i64 c10] W fun e' w' => e' = .returned (.tuple #[.int .i64 s, .int .i64 g]) ∧ Below W.heap.size W w') := fun W hW => by
    have h := lasts_any h2.kb (by omega) c10 W hW (c := c')
    rw [lasts_turn h2.x1 h2.cl, hsg, hη, hlB] at h
    exact h
  obtain ⟨w1, hw1⟩ : ∃ w1, (w.alloc (.cells #[.int .i64 G, .int .i64 η, .slice A n c] 24)).alloc (.cells #[.int .i64 G, .int .i64 η, .slice B n c'] 24) = w1 := ⟨_, rfl⟩
  have hB1 : Below w.heap.size w w1 := by rw [← hw1]; exact ((Below.refl _ w).alloc (Nat.le_refl _) _).alloc (by simp) _
  have k0 : w1.heap[w.heap.size]? = some (.cells #[.int .i64 G, .int .i64 η, .slice A n c] 24 (0, 0)) := by rw [← hw1]; exact allocOld (allocNew _ _ _ rfl) _
  have k1 : w1.heap[w.heap.size + 1]? = some (.cells #[.int .i64 G, .int .i64 η, .slice B n c'] 24 (0, 0)) := by rw [← hw1]; exact allocNew _ _ _ (by simp)
  have K0 := Lib.hid k0
  have K1 := Lib.hid k1
  have HA := Lib.hid (ha.below hB1 ha.bb)
  have HB := Lib.hid (hb.below hB1 hb.bb)
  have p0 : w1.cell? ⟨w.heap.size, 0, none⟩ = some (.int .i64 G) := (blk_cell' k0 0).trans rfl
  have p1 : w1.cell? ⟨w.heap.size, 1, none⟩ = some (.int .i64 η) := (blk_cell' k0 1).trans rfl
  have p2 : w1.cell? ⟨w.heap.size, 2, none⟩ = some (.slice A n c) := (blk_cell' k0 2).trans rfl
  have r0 : w1.cell? ⟨w.heap.size + 1, 0, none⟩ = some (.int .i64 G) := (blk_cell' k1 0).trans rfl
  have r1 : w1.cell? ⟨w.heap.size + 1, 1, none⟩ = some (.int .i64 η) := (blk_cell' k1 1).trans rfl
  have r2 : w1.cell? ⟨w.heap.size + 1, 2, none⟩ = some (.slice B n c') := (blk_cell' k1 2).trans rfl
  have H2 := Lib.hid h2
  rw [hη]
  have HH := Lib.hid hη
  clear h2 ha hb k0 k1 hme hsg hη hlA hlB
  go_enter Try.func13, Try.ntmps13
  go_wp2_with fail
  refine (HPa.out _ HA.out).mono ?_
  rintro e' w2 ⟨rfl, hB2⟩
  have p0 := pw_cell_below hB2 p0
  have p1 := pw_cell_below hB2 p1
  have p2 := pw_cell_below hB2 p2
  have r0 := pw_cell_below hB2 r0
  have r1 := pw_cell_below hB2 r1
  have r2 := pw_cell_below hB2 r2
  have HA := Lib.hid (HA.out.below hB2 HA.out.bb)
  have HB := Lib.hid (HB.out.below hB2 HB.out.bb)
  go_wp2_with fail
  refine (HPb.out _ HB.out).mono ?_
  rintro e' w3 ⟨rfl, hB3⟩
  have p0 := pw_cell_below hB3 p0
  have p1 := pw_cell_below hB3 p1
  have p2 := pw_cell_below hB3 p2
  have r0 := pw_cell_below hB3 r0
  have r1 := pw_cell_below hB3 r1
  have r2 := pw_cell_below hB3 r2
  have HA := Lib.hid (HA.out.below hB3 HA.out.bb)
  have HB := Lib.hid (HB.out.below hB3 HB.out.bb)
  go_wp2_with fail
  refine (HLa.out _ HA.out).mono ?_
  rintro e' w4 ⟨rfl, hB4⟩
  have p0 := pw_cell_below hB4 p0
  have p1 := pw_cell_below hB4 p1
  have p2 := pw_cell_below hB4 p2
  have r0 := pw_cell_below hB4 r0
  have r1 := pw_cell_below hB4 r1
  have r2 := pw_cell_below hB4 r2
  have HA := Lib.hid (HA.out.below hB4 HA.out.bb)
  have HB := Lib.hid (HB.out.below hB4 HB.out.bb)
  go_wp2_with fail
  refine (HLb.out _ HB.out).mono ?_
  rintro e' w5 ⟨rfl, hB5⟩
  have p0 := pw_cell_below hB5 p0
  have p1 := pw_cell_below hB5 p1
  have p2 := pw_cell_below hB5 p2
  have r0 := pw_cell_below hB5 r0
  have r1 := pw_cell_below hB5 r1
  have r2 := pw_cell_below hB5 r2
  have HA := Lib.hid (HA.out.below hB5 HA.out.bb)
  have HB := Lib.hid (HB.out.below hB5 HB.out.bb)
  have hz1 := hB1.size
  have hz2 := hB2.size
  have hz3 := hB3.size
  have hz4 := hB4.size
  have hz5 := hB5.size
  have hB15 : Below w.heap.size w w5 := hB1.trans (((hB2.trans (hB3.mono hz2)).trans ((hB4.trans (hB5.mono hz4)).mono (by omega))).mono hz1)
  --LOOPS
  have s0 := p0
  have s1 := p1
  have s2 := p2
  have u0 := r0
  have u1 := r1
  have u2 := r2
  go_wp2_with fail
  have hmx : Try.prog.follows .mixedOrders = true := by kernel_rfl
  go_loopw [22] (fun i wr => ∃ k : Nat, k ≤ n ∧ i = .int .i64 k ∧ Below w5.heap.size w5 wr) (fun i _ => n - (intOf i).toNat)
  case atStart => exact ⟨0, Nat.zero_le _, rfl, Below.refl _ _⟩
  case round =>
    obtain ⟨k, hk, rfl, hBr⟩ := hrel
    obtain ⟨wa, rfl⟩ : ∃ wa : World, wa = wr := ⟨_, rfl⟩
    have p0 := pw_cell_below hBr p0
    have p1 := pw_cell_below hBr p1
    have p2 := pw_cell_below hBr p2
    have r0 := pw_cell_below hBr r0
    have r1 := pw_cell_below hBr r1
    have r2 := pw_cell_below hBr r2
    have HAr := Lib.hid (HA.out.below hBr HA.out.bb)
    have HBr := Lib.hid (HB.out.below hBr HB.out.bb)
    have hzr := hBr.size
    by_cases hlt : k < n
    · have hkl : k < la.length := by rw [H2.out.cl.la]; exact hlt
      obtain ⟨sb, hsb, hst⟩ := H2.out.cl.at_ k _ (List.getElem?_eq_getElem hkl)
      obtain ⟨⟨wv, we⟩, hwr⟩ : ∃ z, worstR la[k] hold T = z := ⟨_, rfl⟩
      have HWa : Hid (∀ W : World, ClAt W A b off la → Calls Try.prog 20 #[.agg #[.int .i64 G, .int .i64 η, .slice A n c], .int .i64 k, .int .i64 T] W fun e' w' => e' = .returned (.tuple #[.int .i64 wv, .int .i64 we]) ∧ Below W.heap.size W w') := fun W hW => by
        have h := worst_any H2.out.ka (by rw [H2.out.cl.la]; exact hca) k _ (List.getElem?_eq_getElem hkl) T W hW (c := c)
        rw [hwr, HH.out, H2.out.cl.la] at h
        exact h
      have HWb : Hid (∀ W : World, ClAt W B b' off' lb → Calls Try.prog 20 #[.agg #[.int .i64 G, .int .i64 η, .slice B n c'], .int .i64 ((rot n x k : Nat) : Int), .int .i64 T] W fun e' w' => e' = .returned (.tuple #[.int .i64 wv, .int .i64 we]) ∧ Below W.heap.size W w') := fun W hW => by
        have h := worst_any H2.out.kb (by rw [H2.out.cl.lb]; exact hcb) (rot n x k) sb hsb T W hW (c := c')
        rw [worstR_turn hst, hwr, HH.out, H2.out.cl.lb] at h
        exact h
      have HAR := Lib.hid (around_eq (n := n) (x := x) (i := k) (by omega) (by omega) H2.out.x2 (by omega))
      clear hsb hst hwr
      go_wp2_with fail
      refine (HWa.out _ HAr.out).mono ?_
      rintro e' w7 ⟨rfl, hB7⟩
      have t0 := pw_cell_below hB7 r0
      have t1 := pw_cell_below hB7 r1
      have t2 := pw_cell_below hB7 r2
      have HB7 := Lib.hid (HBr.out.below hB7 HBr.out.bb)
      go_wp2_with fail
      refine wp_calm ?_
      refine start_ (n := 12) (S := fun w' => w'.cell? ⟨w.heap.size + 1, 0, none⟩ = some (.int .i64 G) ∧ w'.cell? ⟨w.heap.size + 1, 1, none⟩ = some (.int .i64 η) ∧ w'.cell? ⟨w.heap.size + 1, 2, none⟩ = some (.slice B n c')) (ds := []) #[false, false, false, false, false, false, false, false, false, false, false, false] (by kernel_rfl) rfl rfl ⟨t0, t1, t2⟩ (fun hHeld => ?_)
      refine pure_ (i := 1) (N := some 97) (v := ?_) (a' := ?_) #[false, true, false, false, false, false, false, false, false, false, false, false] rfl rfl (by kernel_rfl) (fun _ _ _ h => h) (Or.inl ⟨by rfl, ?_⟩) ?_ ?_
      rotate_left
      · intro w'
        go_simp
        with_reducible rfl
      rotate_left
      · simp only [Act.put, List.setIfInBounds_toArray, List.set_cons_zero, List.set_cons_succ, i64_w, i32_w]
        rfl
      refine pure_ (i := 2) (N := some 98) (v := ?_) (a' := ?_) #[false, true, true, false, false, false, false, false, false, false, false, false] rfl rfl (by kernel_rfl) (fun _ _ _ h => h) (Or.inl ⟨by rfl, ?_⟩) ?_ ?_
      rotate_left
      · intro w'
        go_simp
        with_reducible rfl
      rotate_left
      · simp only [Act.put, List.setIfInBounds_toArray, List.set_cons_zero, List.set_cons_succ, i64_w, i32_w]
        rfl
      refine pure_ (i := 3) (N := some 99) (v := ?_) (a' := ?_) #[false, true, true, true, false, false, false, false, false, false, false, false] rfl rfl (by kernel_rfl) (fun _ _ _ h => h) (Or.inl ⟨by rfl, ?_⟩) ?_ ?_
      rotate_left
      · intro w'
        go_simp
        with_reducible rfl
      rotate_left
      · simp only [Act.put, List.setIfInBounds_toArray, List.set_cons_zero, List.set_cons_succ, i64_w, i32_w]
        rfl
      refine pure_ (i := 5) (N := some 101) (v := ?_) (a' := ?_) #[false, true, true, true, false, true, false, false, false, false, false, false] rfl rfl (by kernel_rfl) (fun _ _ _ h => h) (Or.inl ⟨by rfl, ?_⟩) ?_ ?_
      rotate_left
      · intro w'
        go_simp
        with_reducible rfl
      rotate_left
      · simp only [Act.put, List.setIfInBounds_toArray, List.set_cons_zero, List.set_cons_succ, i64_w, i32_w]
        rfl
      refine take_ (i := 0) (N := some 96) (v := ?_) (a' := ?_) #[true, true, true, true, false, true, false, false, false, false, false, false] rfl rfl (by kernel_rfl) (fun _ _ _ h => h) (Or.inl ⟨by rfl, ?_⟩) hHeld ?_ ?_
      rotate_left
      · rintro w' ⟨s0, s1, s2⟩
        go_simp
        with_reducible rfl
      rotate_left
      · simp only [Act.put, List.setIfInBounds_toArray, List.set_cons_zero, List.set_cons_succ, i64_w, i32_w]
        rfl
      refine one_ (i := 4) (N := some 100) #[true, true, true, true, true, true, false, false, false, false, false, false] rfl rfl (by kernel_rfl) (by decide) (fun K hK => ?_)
      refine goes_ Try.func6 (by kernel_rfl) rfl #[.int .i64 k, .int .i64 x, .int .i64 n] (by rfl) rfl rfl (by simp only [List.map_toArray, List.map_cons, List.map_nil]; rfl) ?_
      with_reducible refine (ignitiontop_around.calls k x n _ _ HAR.out).mono ?_
      rintro e V ⟨rfl, hD⟩
      refine ⟨_, rfl, ?_⟩
      have hV := hD.below
      have HBV := Lib.hid (HB7.out.drew.below hV HB7.out.bb)
      refine hK.out _ _ ⟨pw_cell_below hV hHeld.1, pw_cell_below hV hHeld.2.1, pw_cell_below hV hHeld.2.2⟩ (fun hHeld => ?_)
      clear hK K
      refine norm_ (a' := ?_) ?_ ?_
      rotate_left
      · show Act.put _ (some 100) _ = _
        simp only [Act.put, List.setIfInBounds_toArray, List.set_cons_zero, List.set_cons_succ, i64_w, i32_w]
        rfl
      refine one_ (i := 6) (N := some 102) #[true, true, true, true, true, true, true, false, false, false, false, false] rfl rfl (by kernel_rfl) (by decide) (fun K hK => ?_)
      refine goes_ Try.func20 (by kernel_rfl) rfl #[.agg #[.int .i64 G, .int .i64 η, .slice B n c'], .int .i64 ((rot n x k : Nat) : Int), .int .i64 T] (by rfl) rfl rfl (by simp only [List.map_toArray, List.map_cons, List.map_nil]; rfl) ?_
      with_reducible refine (HWb.out _ HBV.out).mono ?_
      rintro e W7 ⟨rfl, hW7⟩
      refine ⟨_, rfl, ?_⟩
      refine hK.out _ _ ⟨pw_cell_below hW7 hHeld.1, pw_cell_below hW7 hHeld.2.1, pw_cell_below hW7 hHeld.2.2⟩ (fun hHeld => ?_)
      clear hK K
      refine norm_ (a' := ?_) ?_ ?_
      rotate_left
      · show Act.put _ (some 102) _ = _
        simp only [Act.put, List.setIfInBounds_toArray, List.set_cons_zero, List.set_cons_succ, i64_w, i32_w]
        rfl
      refine pure_ (i := 7) (N := some 95) (v := ?_) (a' := ?_) #[true, true, true, true, true, true, true, true, false, false, false, false] rfl rfl (by kernel_rfl) (fun _ _ _ h => h) (Or.inl ⟨by rfl, ?_⟩) ?_ ?_
      rotate_left
      · intro w'
        go_simp
        with_reducible rfl
      rotate_left
      · simp only [Act.put, List.setIfInBounds_toArray, List.set_cons_zero, List.set_cons_succ, i64_w, i32_w]
        rfl
      refine pure_ (i := 8) (N := some 103) (v := ?_) (a' := ?_) #[true, true, true, true, true, true, true, true, true, false, false, false] rfl rfl (by kernel_rfl) (fun _ _ _ h => h) (Or.inl ⟨by rfl, ?_⟩) ?_ ?_
      rotate_left
      · intro w'
        go_simp
        with_reducible rfl
      rotate_left
      · simp only [Act.put, List.setIfInBounds_toArray, List.set_cons_zero, List.set_cons_succ, i64_w, i32_w]
        rfl
      refine pure_ (i := 9) (N := some 104) (v := ?_) (a' := ?_) #[true, true, true, true, true, true, true, true, true, true, false, false] rfl rfl (by kernel_rfl) (fun _ _ _ h => h) (Or.inl ⟨by rfl, ?_⟩) ?_ ?_
      rotate_left
      · intro w'
        go_simp
        with_reducible rfl
      rotate_left
      · simp only [Act.put, List.setIfInBounds_toArray, List.set_cons_zero, List.set_cons_succ, i64_w, i32_w]
        rfl
      refine pure_ (i := 10) (N := some 25) (v := ?_) (a' := ?_) #[true, true, true, true, true, true, true, true, true, true, true, false] rfl rfl (by kernel_rfl) (fun _ _ _ h => h) (Or.inl ⟨by rfl, ?_⟩) ?_ ?_
      rotate_left
      · intro w'
        go_simp
        with_reducible rfl
      rotate_left
      · simp only [Act.put, List.setIfInBounds_toArray, List.set_cons_zero, List.set_cons_succ, i64_w, i32_w]
        rfl
      refine pure_ (i := 11) (N := some 26) (v := ?_) (a' := ?_) #[true, true, true, true, true, true, true, true, true, true, true, true] rfl rfl (by kernel_rfl) (fun _ _ _ h => h) (Or.inl ⟨by rfl, ?_⟩) ?_ ?_
      rotate_left
      · intro w'
        go_simp
        with_reducible rfl
      rotate_left
      · simp only [Act.put, List.setIfInBounds_toArray, List.set_cons_zero, List.set_cons_succ, i64_w, i32_w]
        rfl
      refine done_ (by kernel_rfl) ?_
      refine calm_normal ?_
      go_wp2_with fail
      have hz7 := hB7.size
      have hzV := hV.size
      exact ⟨⟨k + 1, by omega, by simp, hBr.trans (((hB7.drew.trans (hV.mono hz7)).trans (hW7.mono (Nat.le_trans hz7 hzV))).mono hzr)⟩, by simp [intOf]; omega⟩
    · clear hk
      go_wp2_with fail
      go_loopw [27] (fun i wr => ∃ k2 : Nat, k2 ≤ G ∧ i = .int .i64 k2 ∧ Below w5.heap.size w5 wr) (fun i _ => G - (intOf i).toNat)
      case atStart => exact ⟨0, Nat.zero_le _, rfl, hBr⟩
      case round =>
        obtain ⟨k2, hk2, rfl, hBq⟩ := hrel
        obtain ⟨wb, rfl⟩ : ∃ wb : World, wb = wr := ⟨_, rfl⟩
        have p0 := pw_cell_below hBq s0
        have p1 := pw_cell_below hBq s1
        have p2 := pw_cell_below hBq s2
        have r0 := pw_cell_below hBq u0
        have r1 := pw_cell_below hBq u1
        have r2 := pw_cell_below hBq u2
        have HAr := Lib.hid (HA.out.below hBq HA.out.bb)
        have HBr := Lib.hid (HB.out.below hBq HB.out.bb)
        have hzr := hBq.size
        by_cases hlt2 : k2 < G
        · obtain ⟨p, hp, _, _⟩ := members_ok H2.out.ka k2 (by omega)
          obtain ⟨q, hq, _, _⟩ := members_ok H2.out.kb (rot G y k2) (by have := rot_lt (n := G) (x := y) (i := k2) (by omega); omega)
          obtain ⟨mt, mb⟩ := members_turn H2.out.x1 H2.out.cl H2.out.ka H2.out.kb k2 hlt2 hp hq
          obtain ⟨r, hr, hrt⟩ := aroundBits_all H2.out.x1 hn16 p (mb.le hn16)
          obtain rfl : r = q := turn_unique H2.out.x1 hn16 hrt mt
          have HMa : Hid (∀ W : World, ClAt W A b off la → Calls Try.prog 21 #[.agg #[.int .i64 G, .int .i64 η, .slice A n c], .int .i64 k2] W fun e' w' => e' = .returned (.tuple #[.int .i64 p, .int .i64 0]) ∧ Below W.heap.size W w') := fun W hW => by
            have h := sleep_Members.calls _ G hold A c la k2 p 0 W (hW.C (by rw [H2.out.cl.la]; omega)) (by rw [H2.out.cl.la]; exact hca) hp
            rw [HH.out, H2.out.cl.la] at h
            exact h
          have HMb : Hid (∀ W : World, ClAt W B b' off' lb → Calls Try.prog 21 #[.agg #[.int .i64 G, .int .i64 η, .slice B n c'], .int .i64 ((rot G y k2 : Nat) : Int)] W fun e' w' => e' = .returned (.tuple #[.int .i64 r, .int .i64 0]) ∧ Below W.heap.size W w') := fun W hW => by
            have h := sleep_Members.calls _ G hold B c' lb ((rot G y k2 : Nat) : Int) r 0 W (hW.C (by rw [H2.out.cl.lb]; omega)) (by rw [H2.out.cl.lb]; exact hcb) hq
            rw [HH.out, H2.out.cl.lb] at h
            exact h
          have HAR := Lib.hid (around_eq (n := G) (x := y) (i := k2) (by omega) (by omega) (by have := H2.out.y1; omega) (by omega))
          have HAB := Lib.hid hr
          clear hp hq hr mt mb hrt
          go_wp2_with fail
          refine (HMa.out _ HAr.out).mono ?_
          rintro e' w7 ⟨rfl, hB7⟩
          have t0 := pw_cell_below hB7 r0
          have t1 := pw_cell_below hB7 r1
          have t2 := pw_cell_below hB7 r2
          have t3 := pw_cell_below hB7 p0
          have HB7 := Lib.hid (HBr.out.below hB7 HBr.out.bb)
          go_wp2_with fail
          refine wp_calm ?_
          refine start_ (n := 12) (S := fun w' => w'.cell? ⟨w.heap.size + 1, 0, none⟩ = some (.int .i64 G) ∧ w'.cell? ⟨w.heap.size + 1, 1, none⟩ = some (.int .i64 η) ∧ w'.cell? ⟨w.heap.size + 1, 2, none⟩ = some (.slice B n c') ∧ w'.cell? ⟨w.heap.size, 0, none⟩ = some (.int .i64 G)) (ds := []) #[false, false, false, false, false, false, false, false, false, false, false, false] (by kernel_rfl) rfl rfl ⟨t0, t1, t2, t3⟩ (fun hHeld => ?_)
          refine pure_ (i := 1) (N := some 127) (v := ?_) (a' := ?_) #[false, true, false, false, false, false, false, false, false, false, false, false] rfl rfl (by kernel_rfl) (fun _ _ _ h => h) (Or.inl ⟨by rfl, ?_⟩) ?_ ?_
          rotate_left
          · intro w'
            go_simp
            with_reducible rfl
          rotate_left
          · simp only [Act.put, List.setIfInBounds_toArray, List.set_cons_zero, List.set_cons_succ, i64_w, i32_w]
            rfl
          refine pure_ (i := 2) (N := some 128) (v := ?_) (a' := ?_) #[false, true, true, false, false, false, false, false, false, false, false, false] rfl rfl (by kernel_rfl) (fun _ _ _ h => h) (Or.inl ⟨by rfl, ?_⟩) ?_ ?_
          rotate_left
          · intro w'
            go_simp
            with_reducible rfl
          rotate_left
          · simp only [Act.put, List.setIfInBounds_toArray, List.set_cons_zero, List.set_cons_succ, i64_w, i32_w]
            rfl
          refine pure_ (i := 3) (N := some 129) (v := ?_) (a' := ?_) #[false, true, true, true, false, false, false, false, false, false, false, false] rfl rfl (by kernel_rfl) (fun _ _ _ h => h) (Or.inl ⟨by rfl, ?_⟩) ?_ ?_
          rotate_left
          · intro w'
            go_simp
            with_reducible rfl
          rotate_left
          · simp only [Act.put, List.setIfInBounds_toArray, List.set_cons_zero, List.set_cons_succ, i64_w, i32_w]
            rfl
          refine take_ (i := 0) (N := some 126) (v := ?_) (a' := ?_) #[true, true, true, true, false, false, false, false, false, false, false, false] rfl rfl (by kernel_rfl) (fun _ _ _ h => h) (Or.inl ⟨by rfl, ?_⟩) hHeld ?_ ?_
          rotate_left
          · rintro w' ⟨s0, s1, s2, s3⟩
            go_simp
            with_reducible rfl
          rotate_left
          · simp only [Act.put, List.setIfInBounds_toArray, List.set_cons_zero, List.set_cons_succ, i64_w, i32_w]
            rfl
          refine take_ (i := 4) (N := some 130) (v := ?_) (a' := ?_) #[true, true, true, true, true, false, false, false, false, false, false, false] rfl rfl (by kernel_rfl) (fun _ _ _ h => h) (Or.inl ⟨by rfl, ?_⟩) hHeld ?_ ?_
          rotate_left
          · rintro w' ⟨s0, s1, s2, s3⟩
            go_simp
            with_reducible rfl
          rotate_left
          · simp only [Act.put, List.setIfInBounds_toArray, List.set_cons_zero, List.set_cons_succ, i64_w, i32_w]
            rfl
          refine one_ (i := 5) (N := some 131) #[true, true, true, true, true, true, false, false, false, false, false, false] rfl rfl (by kernel_rfl) (by decide) (fun K hK => ?_)
          refine goes_ Try.func6 (by kernel_rfl) rfl #[.int .i64 k2, .int .i64 y, .int .i64 G] (by rfl) rfl rfl (by simp only [List.map_toArray, List.map_cons, List.map_nil]; rfl) ?_
          with_reducible refine (ignitiontop_around.calls k2 y G _ _ HAR.out).mono ?_
          rintro e V ⟨rfl, hD⟩
          refine ⟨_, rfl, ?_⟩
          have hV := hD.below
          have HBV := Lib.hid (HB7.out.drew.below hV HB7.out.bb)
          refine hK.out _ _ ⟨pw_cell_below hV hHeld.1, pw_cell_below hV hHeld.2.1, pw_cell_below hV hHeld.2.2.1, pw_cell_below hV hHeld.2.2.2⟩ (fun hHeld => ?_)
          clear hK K
          refine norm_ (a' := ?_) ?_ ?_
          rotate_left
          · show Act.put _ (some 131) _ = _
            simp only [Act.put, List.setIfInBounds_toArray, List.set_cons_zero, List.set_cons_succ, i64_w, i32_w]
            rfl
          refine one_ (i := 6) (N := some 132) #[true, true, true, true, true, true, true, false, false, false, false, false] rfl rfl (by kernel_rfl) (by decide) (fun K hK => ?_)
          refine goes_ Try.func21 (by kernel_rfl) rfl #[.agg #[.int .i64 G, .int .i64 η, .slice B n c'], .int .i64 ((rot G y k2 : Nat) : Int)] (by rfl) rfl rfl (by simp only [List.map_toArray, List.map_cons, List.map_nil]; rfl) ?_
          with_reducible refine (HMb.out _ HBV.out).mono ?_
          rintro e W7 ⟨rfl, hW7⟩
          refine ⟨_, rfl, ?_⟩
          refine hK.out _ _ ⟨pw_cell_below hW7 hHeld.1, pw_cell_below hW7 hHeld.2.1, pw_cell_below hW7 hHeld.2.2.1, pw_cell_below hW7 hHeld.2.2.2⟩ (fun hHeld => ?_)
          clear hK K
          refine norm_ (a' := ?_) ?_ ?_
          rotate_left
          · show Act.put _ (some 132) _ = _
            simp only [Act.put, List.setIfInBounds_toArray, List.set_cons_zero, List.set_cons_succ, i64_w, i32_w]
            rfl
          refine pure_ (i := 7) (N := some 125) (v := ?_) (a' := ?_) #[true, true, true, true, true, true, true, true, false, false, false, false] rfl rfl (by kernel_rfl) (fun _ _ _ h => h) (Or.inl ⟨by rfl, ?_⟩) ?_ ?_
          rotate_left
          · intro w'
            go_simp
            with_reducible rfl
          rotate_left
          · simp only [Act.put, List.setIfInBounds_toArray, List.set_cons_zero, List.set_cons_succ, i64_w, i32_w]
            rfl
          refine pure_ (i := 8) (N := some 133) (v := ?_) (a' := ?_) #[true, true, true, true, true, true, true, true, true, false, false, false] rfl rfl (by kernel_rfl) (fun _ _ _ h => h) (Or.inl ⟨by rfl, ?_⟩) ?_ ?_
          rotate_left
          · intro w'
            go_simp
            with_reducible rfl
          rotate_left
          · simp only [Act.put, List.setIfInBounds_toArray, List.set_cons_zero, List.set_cons_succ, i64_w, i32_w]
            rfl
          refine pure_ (i := 9) (N := some 134) (v := ?_) (a' := ?_) #[true, true, true, true, true, true, true, true, true, true, false, false] rfl rfl (by kernel_rfl) (fun _ _ _ h => h) (Or.inl ⟨by rfl, ?_⟩) ?_ ?_
          rotate_left
          · intro w'
            go_simp
            with_reducible rfl
          rotate_left
          · simp only [Act.put, List.setIfInBounds_toArray, List.set_cons_zero, List.set_cons_succ, i64_w, i32_w]
            rfl
          refine pure_ (i := 10) (N := some 30) (v := ?_) (a' := ?_) #[true, true, true, true, true, true, true, true, true, true, true, false] rfl rfl (by kernel_rfl) (fun _ _ _ h => h) (Or.inl ⟨by rfl, ?_⟩) ?_ ?_
          rotate_left
          · intro w'
            go_simp
            with_reducible rfl
          rotate_left
          · simp only [Act.put, List.setIfInBounds_toArray, List.set_cons_zero, List.set_cons_succ, i64_w, i32_w]
            rfl
          refine pure_ (i := 11) (N := some 31) (v := ?_) (a' := ?_) #[true, true, true, true, true, true, true, true, true, true, true, true] rfl rfl (by kernel_rfl) (fun _ _ _ h => h) (Or.inl ⟨by rfl, ?_⟩) ?_ ?_
          rotate_left
          · intro w'
            go_simp
            with_reducible rfl
          rotate_left
          · simp only [Act.put, List.setIfInBounds_toArray, List.set_cons_zero, List.set_cons_succ, i64_w, i32_w]
            rfl
          refine done_ (by kernel_rfl) ?_
          refine calm_normal ?_
          go_wp2_with fail
          refine (ignitiontop_aroundBits.calls _ p x n r _ HAB.out).mono ?_
          rintro e' w8 ⟨rfl, hD8⟩
          have hB8 := hD8.below
          go_wp2_with fail
          have hz7 := hB7.size
          have hzV := hV.size
          have hzW := hW7.size
          exact ⟨⟨k2 + 1, by omega, by simp, hBq.trans ((((hB7.drew.trans (hV.mono hz7)).trans (hW7.mono (Nat.le_trans hz7 hzV))).trans (hB8.mono (Nat.le_trans hz7 (Nat.le_trans hzV hzW)))).mono hzr)⟩, by simp [intOf]; omega⟩
        · clear hk2
          have hB0q : Below w.heap.size w wb := hB15.trans (hBq.mono hB15.size)
          by_cases n1 : need < 0
          · go_wp2_with fail
            go_ret
            exact ⟨rfl, hB0q⟩
          · have n1' : decide (need < 0) = false := decide_eq_false n1
            obtain ⟨N2, hN2⟩ : ∃ N2 : Int, (2 : Int) ^ n = N2 := ⟨_, rfl⟩
            have hwp : wrap64 ((2 : Int) ^ n) = N2 := by rw [wrap_pow n (by omega), hN2]
            have hww : wrap64 N2 = N2 := by rw [← hwp]; exact wrap_idem _
            by_cases n2 : N2 ≤ need
            · go_wp2_with fail
              go_ret
              exact ⟨rfl, hB0q⟩
            · have n2' : decide (N2 ≤ need) = false := decide_eq_false n2
              have hbn : Bd n need := ⟨Int.not_lt.1 n1, by rw [hN2]; exact Int.not_le.1 n2⟩
              clear hN2
              obtain ⟨f1, ⟨c1, c2, c3⟩, hca1, hch⟩ := choose_ok H2.out.ka need (by rw [H2.out.cl.la]; exact hbn)
              obtain ⟨nr, hnr, hnt⟩ := aroundBits_all H2.out.x1 hn16 need (hbn.le hn16)
              obtain ⟨f2, ⟨d1, d2, d3⟩, hcb1, hch'⟩ := choose_ok H2.out.kb nr (by rw [H2.out.cl.lb]; exact hnt.bd)
              rw [Int.toNat_natCast] at hch hch'
              obtain ⟨z1, z2, z3⟩ := cho_turn hG8 H2.out.x1 (fun _ => H2.out.y1) H2.out.cl hnt hch hch'
              dsimp only at z1 z2 z3
              subst z1
              subst z2
              have HCa : Hid (∀ W : World, ClAt W A b off la → Calls Try.prog 16 #[.agg #[.int .i64 G, .int .i64 η, .slice A n c], .int .i64 need] W fun e' w' => e' = .returned (.tuple #[.int .i64 c1, .int .i64 c2, .int .i64 c3]) ∧ Below W.heap.size W w') := fun W hW => by
                have h := sleep_Choose.calls _ G hold A c la need c1 c2 c3 W (hW.C (by rw [H2.out.cl.la]; omega)) (by rw [H2.out.cl.la]; exact hca) hca1
                rw [HH.out, H2.out.cl.la] at h
                exact h
              have HCb : Hid (∀ W : World, ClAt W B b' off' lb → Calls Try.prog 16 #[.agg #[.int .i64 G, .int .i64 η, .slice B n c'], .int .i64 nr] W fun e' w' => e' = .returned (.tuple #[.int .i64 d1, .int .i64 c2, .int .i64 c3]) ∧ Below W.heap.size W w') := fun W hW => by
                have h := sleep_Choose.calls _ G hold B c' lb nr d1 c2 c3 W (hW.C (by rw [H2.out.cl.lb]; omega)) (by rw [H2.out.cl.lb]; exact hcb) hcb1
                rw [HH.out, H2.out.cl.lb] at h
                exact h
              have HAB := Lib.hid hnr
              clear hca1 hch hcb1 hch' hnr hnt hbn
              go_wp2_with fail
              refine (HCa.out _ HAr.out).mono ?_
              rintro e' w7 ⟨rfl, hB7⟩
              have t0 := pw_cell_below hB7 r0
              have t1 := pw_cell_below hB7 r1
              have t2 := pw_cell_below hB7 r2
              have HB7 := Lib.hid (HBr.out.below hB7 HBr.out.bb)
              go_wp2_with fail
              refine wp_calm ?_
              refine start_ (n := 13) (S := fun w' => w'.cell? ⟨w.heap.size + 1, 0, none⟩ = some (.int .i64 G) ∧ w'.cell? ⟨w.heap.size + 1, 1, none⟩ = some (.int .i64 η) ∧ w'.cell? ⟨w.heap.size + 1, 2, none⟩ = some (.slice B n c')) (ds := []) #[false, false, false, false, false, false, false, false, false, false, false, false, false] (by kernel_rfl) rfl rfl ⟨t0, t1, t2⟩ (fun hHeld => ?_)
              refine pure_ (i := 1) (N := some 167) (v := ?_) (a' := ?_) #[false, true, false, false, false, false, false, false, false, false, false, false, false] rfl rfl (by kernel_rfl) (fun _ _ _ h => h) (Or.inl ⟨by rfl, ?_⟩) ?_ ?_
              rotate_left
              · intro w'
                go_simp
                with_reducible rfl
              rotate_left
              · simp only [Act.put, List.setIfInBounds_toArray, List.set_cons_zero, List.set_cons_succ, i64_w, i32_w]
                rfl
              refine pure_ (i := 2) (N := some 168) (v := ?_) (a' := ?_) #[false, true, true, false, false, false, false, false, false, false, false, false, false] rfl rfl (by kernel_rfl) (fun _ _ _ h => h) (Or.inl ⟨by rfl, ?_⟩) ?_ ?_
              rotate_left
              · intro w'
                go_simp
                with_reducible rfl
              rotate_left
              · simp only [Act.put, List.setIfInBounds_toArray, List.set_cons_zero, List.set_cons_succ, i64_w, i32_w]
                rfl
              refine pure_ (i := 3) (N := some 169) (v := ?_) (a' := ?_) #[false, true, true, true, false, false, false, false, false, false, false, false, false] rfl rfl (by kernel_rfl) (fun _ _ _ h => h) (Or.inl ⟨by rfl, ?_⟩) ?_ ?_
              rotate_left
              · intro w'
                go_simp
                with_reducible rfl
              rotate_left
              · simp only [Act.put, List.setIfInBounds_toArray, List.set_cons_zero, List.set_cons_succ, i64_w, i32_w]
                rfl
              refine take_ (i := 0) (N := some 166) (v := ?_) (a' := ?_) #[true, true, true, true, false, false, false, false, false, false, false, false, false] rfl rfl (by kernel_rfl) (fun _ _ _ h => h) (Or.inl ⟨by rfl, ?_⟩) hHeld ?_ ?_
              rotate_left
              · rintro w' ⟨s0, s1, s2⟩
                go_simp
                with_reducible rfl
              rotate_left
              · simp only [Act.put, List.setIfInBounds_toArray, List.set_cons_zero, List.set_cons_succ, i64_w, i32_w]
                rfl
              refine one_ (i := 4) (N := some 170) #[true, true, true, true, true, false, false, false, false, false, false, false, false] rfl rfl (by kernel_rfl) (by decide) (fun K hK => ?_)
              refine goes_ Try.func7 (by kernel_rfl) rfl #[.int .i64 need, .int .i64 x, .int .i64 n] (by rfl) rfl rfl (by simp only [List.map_toArray, List.map_cons, List.map_nil]; rfl) ?_
              with_reducible refine (ignitiontop_aroundBits.calls _ need x n nr _ HAB.out).mono ?_
              rintro e V ⟨rfl, hD⟩
              refine ⟨_, rfl, ?_⟩
              have hV := hD.below
              have HBV := Lib.hid (HB7.out.drew.below hV HB7.out.bb)
              refine hK.out _ _ ⟨pw_cell_below hV hHeld.1, pw_cell_below hV hHeld.2.1, pw_cell_below hV hHeld.2.2⟩ (fun hHeld => ?_)
              clear hK K
              refine norm_ (a' := ?_) ?_ ?_
              rotate_left
              · show Act.put _ (some 170) _ = _
                simp only [Act.put, List.setIfInBounds_toArray, List.set_cons_zero, List.set_cons_succ, i64_w, i32_w]
                rfl
              refine one_ (i := 5) (N := some 171) #[true, true, true, true, true, true, false, false, false, false, false, false, false] rfl rfl (by kernel_rfl) (by decide) (fun K hK => ?_)
              refine goes_ Try.func16 (by kernel_rfl) rfl #[.agg #[.int .i64 G, .int .i64 η, .slice B n c'], .int .i64 nr] (by rfl) rfl rfl (by simp only [List.map_toArray, List.map_cons, List.map_nil]; rfl) ?_
              with_reducible refine (HCb.out _ HBV.out).mono ?_
              rintro e W7 ⟨rfl, hW7⟩
              refine ⟨_, rfl, ?_⟩
              refine hK.out _ _ ⟨pw_cell_below hW7 hHeld.1, pw_cell_below hW7 hHeld.2.1, pw_cell_below hW7 hHeld.2.2⟩ (fun hHeld => ?_)
              clear hK K
              refine norm_ (a' := ?_) ?_ ?_
              rotate_left
              · show Act.put _ (some 171) _ = _
                simp only [Act.put, List.setIfInBounds_toArray, List.set_cons_zero, List.set_cons_succ, i64_w, i32_w]
                rfl
              refine pure_ (i := 6) (N := some 165) (v := ?_) (a' := ?_) #[true, true, true, true, true, true, true, false, false, false, false, false, false] rfl rfl (by kernel_rfl) (fun _ _ _ h => h) (Or.inl ⟨by rfl, ?_⟩) ?_ ?_
              rotate_left
              · intro w'
                go_simp
                with_reducible rfl
              rotate_left
              · simp only [Act.put, List.setIfInBounds_toArray, List.set_cons_zero, List.set_cons_succ, i64_w, i32_w]
                rfl
              refine pure_ (i := 7) (N := some 172) (v := ?_) (a' := ?_) #[true, true, true, true, true, true, true, true, false, false, false, false, false] rfl rfl (by kernel_rfl) (fun _ _ _ h => h) (Or.inl ⟨by rfl, ?_⟩) ?_ ?_
              rotate_left
              · intro w'
                go_simp
                with_reducible rfl
              rotate_left
              · simp only [Act.put, List.setIfInBounds_toArray, List.set_cons_zero, List.set_cons_succ, i64_w, i32_w]
                rfl
              refine pure_ (i := 8) (N := some 173) (v := ?_) (a' := ?_) #[true, true, true, true, true, true, true, true, true, false, false, false, false] rfl rfl (by kernel_rfl) (fun _ _ _ h => h) (Or.inl ⟨by rfl, ?_⟩) ?_ ?_
              rotate_left
              · intro w'
                go_simp
                with_reducible rfl
              rotate_left
              · simp only [Act.put, List.setIfInBounds_toArray, List.set_cons_zero, List.set_cons_succ, i64_w, i32_w]
                rfl
              refine pure_ (i := 9) (N := some 174) (v := ?_) (a' := ?_) #[true, true, true, true, true, true, true, true, true, true, false, false, false] rfl rfl (by kernel_rfl) (fun _ _ _ h => h) (Or.inl ⟨by rfl, ?_⟩) ?_ ?_
              rotate_left
              · intro w'
                go_simp
                with_reducible rfl
              rotate_left
              · simp only [Act.put, List.setIfInBounds_toArray, List.set_cons_zero, List.set_cons_succ, i64_w, i32_w]
                rfl
              refine pure_ (i := 10) (N := some 34) (v := ?_) (a' := ?_) #[true, true, true, true, true, true, true, true, true, true, true, false, false] rfl rfl (by kernel_rfl) (fun _ _ _ h => h) (Or.inl ⟨by rfl, ?_⟩) ?_ ?_
              rotate_left
              · intro w'
                go_simp
                with_reducible rfl
              rotate_left
              · simp only [Act.put, List.setIfInBounds_toArray, List.set_cons_zero, List.set_cons_succ, i64_w, i32_w]
                rfl
              refine pure_ (i := 11) (N := some 35) (v := ?_) (a' := ?_) #[true, true, true, true, true, true, true, true, true, true, true, true, false] rfl rfl (by kernel_rfl) (fun _ _ _ h => h) (Or.inl ⟨by rfl, ?_⟩) ?_ ?_
              rotate_left
              · intro w'
                go_simp
                with_reducible rfl
              rotate_left
              · simp only [Act.put, List.setIfInBounds_toArray, List.set_cons_zero, List.set_cons_succ, i64_w, i32_w]
                rfl
              refine pure_ (i := 12) (N := some 17) (v := ?_) (a' := ?_) #[true, true, true, true, true, true, true, true, true, true, true, true, true] rfl rfl (by kernel_rfl) (fun _ _ _ h => h) (Or.inl ⟨by rfl, ?_⟩) ?_ ?_
              rotate_left
              · intro w'
                go_simp
                with_reducible rfl
              rotate_left
              · simp only [Act.put, List.setIfInBounds_toArray, List.set_cons_zero, List.set_cons_succ, i64_w, i32_w]
                rfl
              refine done_ (by kernel_rfl) ?_
              refine calm_normal ?_
              have hz7 := hB7.size
              have hzV := hV.size
              have hfin : Below w.heap.size w W7 := hB0q.trans (((hB7.drew.trans (hV.mono hz7)).trans (hW7.mono (Nat.le_trans hz7 hzV))).mono hB0q.size)
              rcases z3 with rfl | rfl
              · go_wp2_with fail
                go_ret
                exact ⟨rfl, hfin⟩
              · by_cases hc3 : c3 = 0
                · subst hc3
                  go_wp2_with fail
                  go_ret
                  exact ⟨rfl, hfin⟩
                · have hc3' : (c3 == 0) = false := by simpa using hc3
                  clear hc3
                  go_wp2_with fail
                  go_ret
                  exact ⟨rfl, hfin⟩
end Go.Proofs.Ytiglkpgoakibaab
