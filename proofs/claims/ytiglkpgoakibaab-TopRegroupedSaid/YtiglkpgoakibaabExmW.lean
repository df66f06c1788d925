/- The law's own example (parked): the walk: it holds. No condition. -/
import Derived.Test.YtiglkpgoakibaabExm
namespace Go.Proofs.Ytiglkpgoakibaab
open Go.RowKit Go.Shelf PTopRegrouped Go.Proofs.YtiglkpgoakibaabW.PrintWords Go.Proofs.YtiglkpgoakibaabW.PrintLast
attribute [local go_sem] Oper.semAt_some
set_option linter.unusedSimpArgs false

theorem RdInts.C {w : World} {A : Option Addr} {g : Nat} {xs : List Int} (h : RdInts w A g xs) (hl : xs.length ≤ 100000) : Kd.C (Kd.int .i64) w A xs.length xs := by
  refine ⟨rfl, by omega, fun h0 => ⟨_, h.hA h0, fun j p hj => ⟨[.int .i64 p], rfl, rfl, fun i u hu => ?_⟩⟩⟩
  have hi := (List.getElem?_eq_some_iff.1 hu).1
  simp only [List.length_cons, List.length_nil, Nat.zero_add, Nat.lt_one_iff] at hi
  subst hi
  simp only [List.getElem?_cons_zero, Option.some.injEq] at hu
  subst hu
  rw [add_off]
  simpa [Kd.int, Kd.scalar] using h.hc j p hj
theorem rd_new {w : World} {g : Nat} (xs : List Int) (h : w.heap[g]? = some (.cells (xs.map (Value.int .i64)).toArray 3 (0, 0))) : RdInts w (some ⟨g, 0, none⟩) g xs where
  hA := fun _ => rfl
  hc := fun j x hx => by rw [blk_cell' h, List.getElem?_toArray, List.getElem?_map, hx]; rfl
theorem exC {w : World} {g : Nat} (h : w.heap[g]? = some (.cells #[.int .i64 1, .int .i64 10, .int .i64 1, .int .i64 1, .int .i64 5, .int .i64 3, .int .i64 20, .int .i64 2, .int .i64 2, .int .i64 10, .int .i64 2, .int .i64 30, .int .i64 0, .int .i64 0, .int .i64 1] 31 (0, 0))) : ClAt w (some ⟨g, 0, none⟩) g 0 exL where
  hA := fun _ => rfl
  bb := blk_lt' h
  hc := fun k x hk i u hu => by
    have hk3 := (List.getElem?_eq_some_iff.1 hk).1
    have hi5 := (List.getElem?_eq_some_iff.1 hu).1
    change k < 3 at hk3
    change i < 5 at hi5
    rw [blk_cell' h]
    match k, hk3 with
    | 0, _ => cases hk; match i, hi5 with
      | 0, _ => exact hu
      | 1, _ => exact hu
      | 2, _ => exact hu
      | 3, _ => exact hu
      | 4, _ => exact hu
    | 1, _ => cases hk; match i, hi5 with
      | 0, _ => exact hu
      | 1, _ => exact hu
      | 2, _ => exact hu
      | 3, _ => exact hu
      | 4, _ => exact hu
    | 2, _ => cases hk; match i, hi5 with
      | 0, _ => exact hu
      | 1, _ => exact hu
      | 2, _ => exact hu
      | 3, _ => exact hu
      | 4, _ => exact hu
theorem exNg {w : World} {g : Nat} (h : w.heap[g]? = some (.cells #[.int .i64 1, .int .i64 1, .int .i64 1, .int .i64 0, .int .i64 2, .int .i64 2, .int .i64 1, .int .i64 0] 33 (0, 0))) : NgAt w g 0 exN := fun k x hk i u hu => by
  have hk3 := (List.getElem?_eq_some_iff.1 hk).1
  have hi5 := (List.getElem?_eq_some_iff.1 hu).1
  change k < 2 at hk3
  change i < 4 at hi5
  rw [blk_cell' h]
  match k, hk3 with
  | 0, _ => cases hk; match i, hi5 with
    | 0, _ => exact hu
    | 1, _ => exact hu
    | 2, _ => exact hu
    | 3, _ => exact hu
  | 1, _ => cases hk; match i, hi5 with
    | 0, _ => exact hu
    | 1, _ => exact hu
    | 2, _ => exact hu
    | 3, _ => exact hu

set_option maxRecDepth 100000 in
set_option maxHeartbeats 1000000 in
theorem example_any (w : World) : Calls Try.prog 5 #[] w fun e w' => e = .returned (.bool true) ∧ Below w.heap.size w w' := by
  have hu24 := Try.underlying24
  obtain ⟨w1, hw1⟩ : ∃ w1, ((w.alloc (.cells #[.int .i64 1, .int .i64 10, .int .i64 1, .int .i64 1, .int .i64 5, .int .i64 3, .int .i64 20, .int .i64 2, .int .i64 2, .int .i64 10, .int .i64 2, .int .i64 30, .int .i64 0, .int .i64 0, .int .i64 1] 31)).alloc (.cells #[.int .i64 2, .int .i64 3, .slice (some ⟨w.heap.size, 0, none⟩) 3 3] 24)).alloc (.cells #[.int .i64 1, .int .i64 1, .int .i64 1, .int .i64 0, .int .i64 2, .int .i64 2, .int .i64 1, .int .i64 0] 33) = w1 := ⟨_, rfl⟩
  obtain ⟨hz, k0, k1, k2, hB1⟩ := alloc3 _ _ _ _ _ hw1
  go_enter Try.func5, Try.ntmps5
  go_wp2_with fail
  refine Calls.mono (play_any (G := 2) (H := 3) 6 ex_ok (l := exL) (c := 3) (by decide) w1 (exC k0) (some ⟨w.heap.size + 1 + 1, 0, none⟩) (w.heap.size + 1 + 1) 0 2 exN (by decide) (fun _ => rfl) (exNg k2) (by omega)) ?_
  rintro e w2 ⟨hB2, hp⟩
  rw [if_pos ex_beg] at hp
  obtain ⟨v1, v2, rfl, hv1, hv2⟩ := hp
  have hR : rowsL 3 (Int.toNat 2) exN (exL.map newNd) (Int.toNat 6) = [0, 3, 3, 3, 0, 0] := ex_rows
  rw [hR] at hv1 hv2
  have hE : enTo [0, 3, 3, 3, 0, 0] exL (Int.toNat 6) = [33, 66, 0] := ex_en
  rw [hE] at hv2
  obtain ⟨A1, g1, c1, rfl, hc1, hr1⟩ := hv1.form
  obtain ⟨A2, g2, c2, rfl, hc2, hr2⟩ := hv2.form
  have HR1 := Lib.hid hr1
  have HR2 := Lib.hid hr2
  have hm1 := (hB2.block _ (blk_lt' k1)).trans k1
  have q0 : w2.cell? ⟨w.heap.size + 1, 0, none⟩ = some (.int .i64 2) := (blk_cell' hm1 0).trans rfl
  have q1 : w2.cell? ⟨w.heap.size + 1, 1, none⟩ = some (.int .i64 3) := (blk_cell' hm1 1).trans rfl
  have q2 : w2.cell? ⟨w.heap.size + 1, 2, none⟩ = some (.slice (some ⟨w.heap.size, 0, none⟩) 3 3) := (blk_cell' hm1 2).trans rfl
  have HC2 := Lib.hid ((exC k0).below hB2 (by omega))
  clear hw1 hv1 hv2 hr1 hr2 hR hE k0 k1 k2 hm1
  have hP : Hid (∀ W : World, ClAt W (some ⟨w.heap.size, 0, none⟩) w.heap.size 0 exL → Calls Try.prog 15 #[.agg #[.int .i64 2, .int .i64 3, .slice (some ⟨w.heap.size, 0, none⟩) 3 3], .int .i64 8] W fun e w' => e = .returned (.tuple #[.int .i64 186, .int .i64 0]) ∧ Below W.heap.size W w') := fun W hW => by
    have h := parked_any (G := 2) (hold := 3) (l := exL) (c := 3) ex_ok (by decide) 8 W hW
    rw [ex_parked] at h
    exact h
  have hQ : Hid (∀ W : World, ClAt W (some ⟨w.heap.size, 0, none⟩) w.heap.size 0 exL → Calls Try.prog 16 #[.agg #[.int .i64 2, .int .i64 3, .slice (some ⟨w.heap.size, 0, none⟩) 3 3], .int .i64 6] W fun e w' => e = .returned (.tuple #[.int .i64 2, .int .i64 51, .int .i64 0]) ∧ Below W.heap.size W w') := fun W hW =>
    sleep_Choose.calls 20 2 3 (some ⟨w.heap.size, 0, none⟩) 3 exL 6 2 51 0 W (hW.C (by decide)) (by decide) ex_choose
  have hz2 := hB2.size
  have hz1 := hB1.size
  go_wp2_with fail
  refine (hP.out _ HC2.out).mono ?_
  rintro e w3 ⟨rfl, hB3⟩
  have q0 := pw_cell_below hB3 q0
  have q1 := pw_cell_below hB3 q1
  have q2 := pw_cell_below hB3 q2
  have HC3 := Lib.hid (HC2.out.below hB3 HC2.out.bb)
  go_wp2_with fail
  refine (hQ.out _ HC3.out).mono ?_
  rintro e w4 ⟨rfl, hB4⟩
  have HR1 := Lib.hid ((HR1.out.below hB3).below hB4)
  have HR2 := Lib.hid ((HR2.out.below hB3).below hB4)
  go_wp2_with fail
  obtain ⟨w5, hw5⟩ : ∃ w5, w4.alloc (.cells #[.int .i64 0, .int .i64 3, .int .i64 3, .int .i64 3, .int .i64 0, .int .i64 0] 3) = w5 := ⟨_, rfl⟩
  have hB5 : Below w4.heap.size w4 w5 := by rw [← hw5]; exact (Below.refl _ _).alloc (Nat.le_refl _) _
  have k5 : w5.heap[w4.heap.size]? = some (.cells #[.int .i64 0, .int .i64 3, .int .i64 3, .int .i64 3, .int .i64 0, .int .i64 0] 3 (0, 0)) := by rw [← hw5]; exact allocNew _ _ _ rfl
  rw [hw5]
  refine (ignitiontop_sameInts.calls 20 A1 c1 [0, 3, 3, 3, 0, 0] (some ⟨w4.heap.size, 0, none⟩) 6 [0, 3, 3, 3, 0, 0] true w5 ((HR1.out.below hB5).C (by decide)) hc1 ((rd_new [0, 3, 3, 3, 0, 0] k5).C (by decide)) (by decide) ex_same1).mono ?_
  rintro e w6 ⟨rfl, hD6⟩
  have hB6 := hD6.below
  clear hD6 hw5
  go_wp2_with fail
  obtain ⟨w7, hw7⟩ : ∃ w7, w6.alloc (.cells #[.int .i64 33, .int .i64 66, .int .i64 0] 3) = w7 := ⟨_, rfl⟩
  have hB7 : Below w6.heap.size w6 w7 := by rw [← hw7]; exact (Below.refl _ _).alloc (Nat.le_refl _) _
  have k7 : w7.heap[w6.heap.size]? = some (.cells #[.int .i64 33, .int .i64 66, .int .i64 0] 3 (0, 0)) := by rw [← hw7]; exact allocNew _ _ _ rfl
  rw [hw7]
  refine (ignitiontop_sameInts.calls 20 A2 c2 [33, 66, 0] (some ⟨w6.heap.size, 0, none⟩) 3 [33, 66, 0] true w7 ((((HR2.out.below hB5).below hB6).below hB7).C (by decide)) hc2 ((rd_new [33, 66, 0] k7).C (by decide)) (by decide) ex_same2).mono ?_
  rintro e w8 ⟨rfl, hD8⟩
  have hB8 := hD8.below
  clear hD8 hw7
  go_wp2_with fail
  go_ret
  have z3 := hB3.size
  have z4 := hB4.size
  have z5 := hB5.size
  have z6 := hB6.size
  have z7 := hB7.size
  refine ⟨rfl, ?_⟩
  exact hB1.trans (((((((hB2.trans (hB3.mono hz2)).trans (hB4.mono (by omega))).trans (hB5.mono (by omega))).trans (hB6.mono (by omega))).trans (hB7.mono (by omega))).trans (hB8.mono (by omega))).mono hz1)
end Go.Proofs.Ytiglkpgoakibaab
