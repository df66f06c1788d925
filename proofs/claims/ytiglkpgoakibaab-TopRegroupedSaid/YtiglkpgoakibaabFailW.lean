/- Fail: the walk. Conditions: the cluster is valid, there are at most 1000 nudges. -/
import Derived.Test.YtiglkpgoakibaabTops
namespace Go.Proofs.Ytiglkpgoakibaab
open Go.RowKit Go.Shelf PTopRegrouped Go.Proofs.YtiglkpgoakibaabW.PrintWords Go.Proofs.YtiglkpgoakibaabW.PrintLast
attribute [local go_sem] Oper.semAt_some
set_option linter.unusedSimpArgs false

/-- Whole numbers that are read. -/
structure RdInts (w : World) (A : Option Addr) (g : Nat) (xs : List Int) : Prop where
  hA : 0 < xs.length → A = some ⟨g, 0, none⟩
  hc : ∀ j x, xs[j]? = some x → w.cell? ⟨g, j, none⟩ = some (.int .i64 x)
theorem Ints.form {w : World} {base : Nat} {v : Value} {xs : List Int} (h : Ints w base v xs) : ∃ A g cap, v = .slice A xs.length cap ∧ xs.length ≤ cap ∧ RdInts w A g xs := by
  rcases h.2 with ⟨rfl, h0⟩ | ⟨g, cap, cur, rfl, _, _, hle, _⟩
  · have := List.eq_nil_of_length_eq_zero h0
    subst this
    exact ⟨none, 0, 0, rfl, Nat.le_refl _, fun h => absurd h (Nat.lt_irrefl 0), fun j x hx => by simp at hx⟩
  · refine ⟨some ⟨g, 0, none⟩, g, cap, rfl, hle, fun _ => rfl, fun j x hx => ?_⟩
    · have := (List.getElem?_eq_some_iff.1 hx).1
      rw [World.ownsRow.cellAt h j (by omega), List.getElem?_map, hx]
      rfl
theorem RdInts.lt {w : World} {A : Option Addr} {g : Nat} {xs : List Int} (h : RdInts w A g xs) (h0 : 0 < xs.length) : g < w.heap.size :=
  World.block_lt_of_cell? w ⟨g, 0, none⟩ (h.hc 0 _ (List.getElem?_eq_getElem h0))
theorem RdInts.below {w w' : World} {A : Option Addr} {g : Nat} {xs : List Int} (h : RdInts w A g xs) (hb : Below w.heap.size w w') : RdInts w' A g xs :=
  ⟨h.hA, fun j x hx => pw_cell_below hb (h.hc j x hx)⟩

def FailPost (G H T : Int) (l : List S31) (ls : List Ng) (w : World) (e : Ending) (w' : World) : Prop :=
  Below w.heap.size w w' ∧ (if begErr G T l ls = 0 then ∃ t i, e = .returned (.tuple #[.int .i64 t, .int .i64 i, .int .i64 0]) ∧ failT (askedL H G.toNat ls (l.map newNd) T.toNat) (rowsL H G.toNat ls (l.map newNd) T.toNat) l t else e = .returned (.tuple #[.int .i64 0, .int .i64 0, .int .i64 (begErr G T l ls)]))

set_option maxRecDepth 100000 in
set_option maxHeartbeats 2000000 in
theorem fail_any {G H : Int} (T : Int) {A : Option Addr} {b off c : Nat} {l : List S31} (hk : ClOk G H l) (hlc : l.length ≤ c) (w : World) (hc : ClAt w A b off l)
    (Al : Option Addr) (nb noff lc : Nat) (ls : List Ng) (hls : ls.length ≤ 1000) (hA : 0 < ls.length → Al = some ⟨nb, noff, none⟩) (hn : NgAt w nb noff ls) (hnb : nb < w.heap.size) :
    Calls Try.prog 12 #[.agg #[.int .i64 G, .int .i64 H, .slice A l.length c], .int .i64 T, .slice Al ls.length lc] w (FailPost G H T l ls w) := by
  have hu24 := Try.underlying24
  have HC := Lib.hid hc
  have HN := Lib.hid hn
  have hl16 := hk.len
  by_cases h0 : begErr G T l ls = 0
  · have HE := Lib.hid h0
    obtain ⟨t0, t1, _, _⟩ := begErr_zero h0
    clear h0 hc hn
    have q0 : (w.alloc (.cells #[.int .i64 G, .int .i64 H, .slice A l.length c] 24)).heap[w.heap.size]? = some (.cells #[.int .i64 G, .int .i64 H, .slice A l.length c] 24 (0, 0)) := allocNew _ _ _ rfl
    have Q0 := Lib.hid q0
    clear q0
    go_enter Try.func12, Try.ntmps12
    go_wp2_with (first | (go_at_call 17; refine (beg_any T hk hlc _ (HC.out.alloc _) Al nb noff lc ls hls hA (HN.out.keep (fun o => Below.cell ((Below.refl _ w).alloc (Nat.le_refl _) _) hnb)) (by simp; omega)).mono ?_; rintro e w1 ⟨hB1, hp⟩; rw [if_pos HE.out] at hp; obtain ⟨P, rfl, hP, hpG, hpH, hpl, hp1, hp2⟩ := hp; have HP := Lib.hid hP; have HG := Lib.hid hpG; have HH := Lib.hid hpH; have HL := Lib.hid hpl; have HB1 := Lib.hid hB1; clear hP hpG hpH hpl hB1) | (go_at_call 18; refine (run_beg hk HE.out HP.out HG.out HH.out HL.out).mono ?_; rintro e w2 ⟨v1, v2, rfl, hg2, hv1, hv2⟩; obtain ⟨A1, g1, c1, rfl, hc1, hr1⟩ := hv1.form; obtain ⟨A2, g2, c2, rfl, hc2, hr2⟩ := hv2.form; have HR1 := Lib.hid hr1; have HR2 := Lib.hid hr2; have HG2 := Lib.hid hg2; clear hv1 hv2 hr1 hr2 hg2))
    --LOOP
    have hB2 : Below w.heap.size (w.alloc (.cells #[.int .i64 G, .int .i64 H, .slice A l.length c] 24)) w2 := (HB1.out.mono (by simp)).grown HG2.out (Nat.le_trans (by simp) HB1.out.size) (fun k e => by cases e; simp at hp2; omega)
    have hB0 : Below w.heap.size w w2 := ((Below.refl _ w).alloc (Nat.le_refl _) _).trans hB2
    have hbx : w2.heap[w.heap.size]? = some (.cells #[.int .i64 G, .int .i64 H, .slice A l.length c] 24 (0, 0)) :=
      (((HB1.out.grown HG2.out HB1.out.size (fun k e => by cases e; exact hp2)) : Below (w.alloc (.cells #[.int .i64 G, .int .i64 H, .slice A l.length c] 24)).heap.size _ w2).block _ (by simp)).trans Q0.out
    have hzz := blk_lt' hbx
    obtain ⟨aks, has⟩ : ∃ aks, askedL H G.toNat ls (l.map newNd) T.toNat = aks := ⟨_, rfl⟩
    obtain ⟨rs, hrs⟩ : ∃ rs, rowsL H G.toNat ls (l.map newNd) T.toNat = rs := ⟨_, rfl⟩
    have hla : aks.length = rs.length := by rw [← has, ← hrs, askedL_length, rowsL_length]
    have hlr : rs.length ≤ 1000 := by rw [← hrs, rowsL_length]; omega
    rw [has] at HR1 hc1
    rw [hrs] at HR2 hc2
    rw [has, hrs]
    have HAS := Lib.hid has
    have HRS := Lib.hid hrs
    have HBX := Lib.hid hbx
    have HB0 := Lib.hid hB0
    have HCL := Lib.hid (HC.out.below hB0 HC.out.bb)
    have hcb := HC.out.bb
    have HFin : Hid (∀ t i, failT aks rs l t → FailPost G H T l ls w (.returned (.tuple #[.int .i64 t, .int .i64 i, .int .i64 0])) w2) := fun t i ht => by
      refine ⟨HB0.out, ?_⟩
      rw [if_pos HE.out, HAS.out, HRS.out]
      exact ⟨t, i, rfl, ht⟩
    clear has hrs hbx hB0 hB2
    have hmx : Try.prog.follows .mixedOrders = true := by kernel_rfl
    go_loopw [34] (fun i wr => ∃ k : Nat, k ≤ rs.length ∧ i = .int .i64 k ∧ (∀ j, j < k → ¬ failAt aks rs l j) ∧ Below w2.heap.size w2 wr) (fun i _ => rs.length - (intOf i).toNat)
    case atStart => exact ⟨0, Nat.zero_le _, rfl, fun j hj => by omega, Below.refl _ _⟩
    case round =>
      obtain ⟨k, hk2, rfl, hno, hB⟩ := hrel
      by_cases hlt : k < rs.length
      · obtain ⟨wa, rfl⟩ : ∃ wa : World, wa = wr := ⟨_, rfl⟩
        obtain ⟨rv, hrv⟩ : ∃ rv, rs[k]? = some rv := ⟨_, List.getElem?_eq_getElem hlt⟩
        obtain ⟨av, hav⟩ : ∃ av, aks[k]? = some av := ⟨_, List.getElem?_eq_getElem (by omega)⟩
        have h1 := HR1.out.lt (by omega)
        have h2 := HR2.out.lt (by omega)
        obtain rfl := HR1.out.hA (by omega)
        obtain rfl := HR2.out.hA (by omega)
        have f1 : wa.cell? ⟨g1, k, none⟩ = some (.int .i64 av) := (below_at hB h1).trans (HR1.out.hc k av hav)
        have f2 : wa.cell? ⟨g2, k, none⟩ = some (.int .i64 rv) := (below_at hB h2).trans (HR2.out.hc k rv hrv)
        have f3 : wa.cell? ⟨w.heap.size, 2, none⟩ = some (.slice A l.length c) := (below_at hB hzz).trans ((blk_cell' HBX.out 2).trans rfl)
        have HNO := Lib.hid hno
        have hga : aks.getD k 0 = av := by rw [List.getD_eq_getElem?_getD, hav]; rfl
        have hgr : rs.getD k 0 = rv := by rw [List.getD_eq_getElem?_getD, hrv]; rfl
        have HGA := Lib.hid hga
        have HGR := Lib.hid hgr
        clear hno hav hrv hga hgr
        go_wp2
        go_loopw [42] (fun i wb => ∃ j : Nat, j ≤ l.length ∧ i = .int .i64 j ∧ (∀ i s, i < j → l[i]? = some s → failB av rv s i = false) ∧ Below wa.heap.size wa wb) (fun i _ => l.length - (intOf i).toNat)
        case atStart => exact ⟨0, Nat.zero_le _, rfl, fun i s hi => by omega, Below.refl _ _⟩
        case round =>
          obtain ⟨j, hj, rfl, hnj, hBb⟩ := hrel
          obtain ⟨wb, rfl⟩ : ∃ wb : World, wb = wr := ⟨_, rfl⟩
          by_cases hlj : j < l.length
          · obtain ⟨s, hs⟩ : ∃ s, l[j]? = some s := ⟨_, List.getElem?_eq_getElem hlj⟩
            obtain rfl := HCL.out.hA (by omega)
            have hsz2 := hB.size
            have d0 : wb.cell? ⟨b, off + j * 5, none⟩ = some (.int .i64 s.f0) := (below_at hBb (by omega)).trans ((below_at hB (by omega)).trans (HCL.out.hc j s hs 0 _ rfl))
            have d1 : wb.cell? ⟨b, off + j * 5 + 1, none⟩ = some (.int .i64 s.f1) := (below_at hBb (by omega)).trans ((below_at hB (by omega)).trans (HCL.out.hc j s hs 1 _ rfl))
            have d2 : wb.cell? ⟨b, off + j * 5 + 2, none⟩ = some (.int .i64 s.f2) := (below_at hBb (by omega)).trans ((below_at hB (by omega)).trans (HCL.out.hc j s hs 2 _ rfl))
            have d3 : wb.cell? ⟨b, off + j * 5 + 3, none⟩ = some (.int .i64 s.f3) := (below_at hBb (by omega)).trans ((below_at hB (by omega)).trans (HCL.out.hc j s hs 3 _ rfl))
            have d4 : wb.cell? ⟨b, off + j * 5 + 4, none⟩ = some (.int .i64 s.f4) := (below_at hBb (by omega)).trans ((below_at hB (by omega)).trans (HCL.out.hc j s hs 4 _ rfl))
            have HS := Lib.hid hs
            have HNJ := Lib.hid hnj
            clear hs hnj
            go_wp2
            obtain ⟨w3, hw3⟩ : ∃ w3, wb.alloc (.cells #[.int .i64 s.f0, .int .i64 s.f1, .int .i64 s.f2, .int .i64 s.f3, .int .i64 s.f4] 31) = w3 := ⟨_, rfl⟩
            have h3b : w3.heap[wb.heap.size]? = some (.cells #[.int .i64 s.f0, .int .i64 s.f1, .int .i64 s.f2, .int .i64 s.f3, .int .i64 s.f4] 31 (0, 0)) := by subst hw3; exact allocNew _ _ _ rfl
            have hB3 : Below wa.heap.size wa w3 := by subst hw3; exact hBb.alloc hBb.size _
            have p0 : w3.cell? ⟨wb.heap.size, 0, none⟩ = some (.int .i64 s.f0) := (blk_cell' h3b 0).trans rfl
            have p1 : w3.cell? ⟨g1, k, none⟩ = some (.int .i64 av) := (below_at hB3 (by omega)).trans f1
            rw [hw3]
            have hjl : j < aks.length ∨ True := .inr trivial
            have hka : k < aks.length := by omega
            clear hw3 d0 d1 d2 d3 d4
            cases c1 : (Go.bits .and .i64 s.f0 av != 0)
            · have HF : Hid (failB av rv s j = false) := by unfold Hid failB; rw [c1]; rfl
              refine wp_calm ?_
              refine start_ (n := 15) (S := fun w' => w'.cell? ⟨wb.heap.size, 0, none⟩ = some (.int .i64 s.f0) ∧ w'.cell? ⟨g1, k, none⟩ = some (.int .i64 av)) (ds := []) #[false, false, false, false, false, false, false, false, false, false, false, false, false, false, false] (by kernel_rfl) rfl rfl ⟨p0, p1⟩ (fun hHeld => ?_)
              refine pure_ (i := 0) (N := some 47) (v := ?_) (a' := ?_) #[true, false, false, false, false, false, false, false, false, false, false, false, false, false, false] rfl rfl (by kernel_rfl) (fun _ _ _ h => h) (Or.inl ⟨by rfl, ?_⟩) ?_ ?_
              rotate_left
              · intro w'
                go_simp
                with_reducible rfl
              rotate_left
              · simp only [Act.put, List.setIfInBounds_toArray, List.set_cons_zero, List.set_cons_succ, i64_w, i32_w]
                rfl
              refine pure_ (i := 2) (N := some 49) (v := ?_) (a' := ?_) #[true, false, true, false, false, false, false, false, false, false, false, false, false, false, false] rfl rfl (by kernel_rfl) (fun _ _ _ h => h) (Or.inl ⟨by rfl, ?_⟩) ?_ ?_
              rotate_left
              · intro w'
                go_simp
                with_reducible rfl
              rotate_left
              · simp only [Act.put, List.setIfInBounds_toArray, List.set_cons_zero, List.set_cons_succ, i64_w, i32_w]
                rfl
              refine pure_ (i := 3) (N := some 50) (v := ?_) (a' := ?_) #[true, false, true, true, false, false, false, false, false, false, false, false, false, false, false] rfl rfl (by kernel_rfl) (fun _ _ _ h => h) (Or.inl ⟨by rfl, ?_⟩) ?_ ?_
              rotate_left
              · intro w'
                go_simp
                with_reducible rfl
              rotate_left
              · simp only [Act.put, List.setIfInBounds_toArray, List.set_cons_zero, List.set_cons_succ, i64_w, i32_w]
                rfl
              refine pure_ (i := 4) (N := some 51) (v := ?_) (a' := ?_) #[true, false, true, true, true, false, false, false, false, false, false, false, false, false, false] rfl rfl (by kernel_rfl) (fun _ _ _ h => h) (Or.inl ⟨by rfl, ?_⟩) ?_ ?_
              rotate_left
              · intro w'
                go_simp
                with_reducible rfl
              rotate_left
              · simp only [Act.put, List.setIfInBounds_toArray, List.set_cons_zero, List.set_cons_succ, i64_w, i32_w]
                rfl
              refine take_ (i := 1) (N := some 48) (v := ?_) (a' := ?_) #[true, true, true, true, true, false, false, false, false, false, false, false, false, false, false] rfl rfl (by kernel_rfl) (fun _ _ _ h => h) (Or.inl ⟨by rfl, ?_⟩) hHeld ?_ ?_
              rotate_left
              · rintro w' ⟨s0, s1⟩
                go_simp
                with_reducible rfl
              rotate_left
              · simp only [Act.put, List.setIfInBounds_toArray, List.set_cons_zero, List.set_cons_succ, i64_w, i32_w]
                rfl
              refine take_ (i := 5) (N := some 52) (v := ?_) (a' := ?_) #[true, true, true, true, true, true, false, false, false, false, false, false, false, false, false] rfl rfl (by kernel_rfl) (fun _ _ _ h => h) (Or.inl ⟨by rfl, ?_⟩) hHeld ?_ ?_
              rotate_left
              · rintro w' ⟨s0, s1⟩
                go_simp
                with_reducible rfl
              rotate_left
              · simp only [Act.put, List.setIfInBounds_toArray, List.set_cons_zero, List.set_cons_succ, i64_w, i32_w]
                rfl
              refine pure_ (i := 6) (N := some 53) (v := ?_) (a' := ?_) #[true, true, true, true, true, true, true, false, false, false, false, false, false, false, false] rfl rfl (by kernel_rfl) (fun _ _ _ h => h) (Or.inl ⟨by rfl, ?_⟩) ?_ ?_
              rotate_left
              · intro w'
                go_simp
                with_reducible rfl
              rotate_left
              · simp only [Act.put, List.setIfInBounds_toArray, List.set_cons_zero, List.set_cons_succ, i64_w, i32_w]
                rfl
              refine pure_ (i := 7) (N := some 54) (v := ?_) (a' := ?_) #[true, true, true, true, true, true, true, true, false, false, false, false, false, false, false] rfl rfl (by kernel_rfl) (fun _ _ _ h => h) (Or.inl ⟨by rfl, ?_⟩) ?_ ?_
              rotate_left
              · intro w'
                go_simp
                with_reducible rfl
              rotate_left
              · simp only [Act.put, List.setIfInBounds_toArray, List.set_cons_zero, List.set_cons_succ, i64_w, i32_w]
                rfl
              refine pure_ (i := 8) (N := some 55) (v := ?_) (a' := ?_) #[true, true, true, true, true, true, true, true, true, false, false, false, false, false, false] rfl rfl (by kernel_rfl) (fun _ _ _ h => h) (Or.inl ⟨by rfl, ?_⟩) ?_ ?_
              rotate_left
              · intro w'
                go_simp
                with_reducible rfl
              rotate_left
              · simp only [Act.put, List.setIfInBounds_toArray, List.set_cons_zero, List.set_cons_succ, i64_w, i32_w]
                rfl
              refine pure_ (i := 9) (N := some 56) (v := undef) (a' := ?_) #[true, true, true, true, true, true, true, true, true, true, false, false, false, false, false] rfl rfl (by kernel_rfl) (fun _ _ _ h => h) (Or.inr ⟨by rfl, rfl⟩) ?_ ?_
              rotate_left
              · simp only [Act.put, List.setIfInBounds_toArray, List.set_cons_zero, List.set_cons_succ, i64_w, i32_w]
                rfl
              refine pure_ (i := 10) (N := some 57) (v := undef) (a' := ?_) #[true, true, true, true, true, true, true, true, true, true, true, false, false, false, false] rfl rfl (by kernel_rfl) (fun _ _ _ h => h) (Or.inr ⟨by rfl, rfl⟩) ?_ ?_
              rotate_left
              · simp only [Act.put, List.setIfInBounds_toArray, List.set_cons_zero, List.set_cons_succ, i64_w, i32_w]
                rfl
              refine pure_ (i := 11) (N := some 58) (v := undef) (a' := ?_) #[true, true, true, true, true, true, true, true, true, true, true, true, false, false, false] rfl rfl (by kernel_rfl) (fun _ _ _ h => h) (Or.inr ⟨by rfl, rfl⟩) ?_ ?_
              rotate_left
              · simp only [Act.put, List.setIfInBounds_toArray, List.set_cons_zero, List.set_cons_succ, i64_w, i32_w]
                rfl
              refine pure_ (i := 12) (N := some 59) (v := undef) (a' := ?_) #[true, true, true, true, true, true, true, true, true, true, true, true, true, false, false] rfl rfl (by kernel_rfl) (fun _ _ _ h => h) (Or.inr ⟨by rfl, rfl⟩) ?_ ?_
              rotate_left
              · simp only [Act.put, List.setIfInBounds_toArray, List.set_cons_zero, List.set_cons_succ, i64_w, i32_w]
                rfl
              refine pure_ (i := 13) (N := some 60) (v := undef) (a' := ?_) #[true, true, true, true, true, true, true, true, true, true, true, true, true, true, false] rfl rfl (by kernel_rfl) (fun _ _ _ h => h) (Or.inr ⟨by rfl, rfl⟩) ?_ ?_
              rotate_left
              · simp only [Act.put, List.setIfInBounds_toArray, List.set_cons_zero, List.set_cons_succ, i64_w, i32_w]
                rfl
              refine pure_ (i := 14) (N := some 61) (v := ?_) (a' := ?_) #[true, true, true, true, true, true, true, true, true, true, true, true, true, true, true] rfl rfl (by kernel_rfl) (fun _ _ _ h => h) (Or.inl ⟨by rfl, ?_⟩) ?_ ?_
              rotate_left
              · intro w'
                go_simp
                with_reducible rfl
              rotate_left
              · simp only [Act.put, List.setIfInBounds_toArray, List.set_cons_zero, List.set_cons_succ, i64_w, i32_w]
                rfl
              refine done_ (by kernel_rfl) ?_
              refine calm_normal ?_
              go_wp2
              refine ⟨⟨j + 1, by omega, by simp, fun i x hi hx => ?_, hB3.drew⟩, by simp [intOf]; omega⟩
              rcases Nat.lt_or_ge i j with h | h
              · exact HNJ.out i x h hx
              · obtain rfl : i = j := by omega
                rw [HS.out] at hx; cases hx; exact HF.out
            · cases c2 : (Go.bits .and .i64 (rv / 2 ^ j) 1 == 0)
              · have HF : Hid (failB av rv s j = false) := by unfold Hid failB; rw [c1, c2]; rfl
                refine wp_calm ?_
                refine start_ (n := 15) (S := fun w' => w'.cell? ⟨wb.heap.size, 0, none⟩ = some (.int .i64 s.f0) ∧ w'.cell? ⟨g1, k, none⟩ = some (.int .i64 av)) (ds := []) #[false, false, false, false, false, false, false, false, false, false, false, false, false, false, false] (by kernel_rfl) rfl rfl ⟨p0, p1⟩ (fun hHeld => ?_)
                refine pure_ (i := 0) (N := some 47) (v := ?_) (a' := ?_) #[true, false, false, false, false, false, false, false, false, false, false, false, false, false, false] rfl rfl (by kernel_rfl) (fun _ _ _ h => h) (Or.inl ⟨by rfl, ?_⟩) ?_ ?_
                rotate_left
                · intro w'
                  go_simp
                  with_reducible rfl
                rotate_left
                · simp only [Act.put, List.setIfInBounds_toArray, List.set_cons_zero, List.set_cons_succ, i64_w, i32_w]
                  rfl
                refine pure_ (i := 2) (N := some 49) (v := ?_) (a' := ?_) #[true, false, true, false, false, false, false, false, false, false, false, false, false, false, false] rfl rfl (by kernel_rfl) (fun _ _ _ h => h) (Or.inl ⟨by rfl, ?_⟩) ?_ ?_
                rotate_left
                · intro w'
                  go_simp
                  with_reducible rfl
                rotate_left
                · simp only [Act.put, List.setIfInBounds_toArray, List.set_cons_zero, List.set_cons_succ, i64_w, i32_w]
                  rfl
                refine pure_ (i := 3) (N := some 50) (v := ?_) (a' := ?_) #[true, false, true, true, false, false, false, false, false, false, false, false, false, false, false] rfl rfl (by kernel_rfl) (fun _ _ _ h => h) (Or.inl ⟨by rfl, ?_⟩) ?_ ?_
                rotate_left
                · intro w'
                  go_simp
                  with_reducible rfl
                rotate_left
                · simp only [Act.put, List.setIfInBounds_toArray, List.set_cons_zero, List.set_cons_succ, i64_w, i32_w]
                  rfl
                refine pure_ (i := 4) (N := some 51) (v := ?_) (a' := ?_) #[true, false, true, true, true, false, false, false, false, false, false, false, false, false, false] rfl rfl (by kernel_rfl) (fun _ _ _ h => h) (Or.inl ⟨by rfl, ?_⟩) ?_ ?_
                rotate_left
                · intro w'
                  go_simp
                  with_reducible rfl
                rotate_left
                · simp only [Act.put, List.setIfInBounds_toArray, List.set_cons_zero, List.set_cons_succ, i64_w, i32_w]
                  rfl
                refine take_ (i := 1) (N := some 48) (v := ?_) (a' := ?_) #[true, true, true, true, true, false, false, false, false, false, false, false, false, false, false] rfl rfl (by kernel_rfl) (fun _ _ _ h => h) (Or.inl ⟨by rfl, ?_⟩) hHeld ?_ ?_
                rotate_left
                · rintro w' ⟨s0, s1⟩
                  go_simp
                  with_reducible rfl
                rotate_left
                · simp only [Act.put, List.setIfInBounds_toArray, List.set_cons_zero, List.set_cons_succ, i64_w, i32_w]
                  rfl
                refine take_ (i := 5) (N := some 52) (v := ?_) (a' := ?_) #[true, true, true, true, true, true, false, false, false, false, false, false, false, false, false] rfl rfl (by kernel_rfl) (fun _ _ _ h => h) (Or.inl ⟨by rfl, ?_⟩) hHeld ?_ ?_
                rotate_left
                · rintro w' ⟨s0, s1⟩
                  go_simp
                  with_reducible rfl
                rotate_left
                · simp only [Act.put, List.setIfInBounds_toArray, List.set_cons_zero, List.set_cons_succ, i64_w, i32_w]
                  rfl
                refine pure_ (i := 6) (N := some 53) (v := ?_) (a' := ?_) #[true, true, true, true, true, true, true, false, false, false, false, false, false, false, false] rfl rfl (by kernel_rfl) (fun _ _ _ h => h) (Or.inl ⟨by rfl, ?_⟩) ?_ ?_
                rotate_left
                · intro w'
                  go_simp
                  with_reducible rfl
                rotate_left
                · simp only [Act.put, List.setIfInBounds_toArray, List.set_cons_zero, List.set_cons_succ, i64_w, i32_w]
                  rfl
                refine pure_ (i := 7) (N := some 54) (v := ?_) (a' := ?_) #[true, true, true, true, true, true, true, true, false, false, false, false, false, false, false] rfl rfl (by kernel_rfl) (fun _ _ _ h => h) (Or.inl ⟨by rfl, ?_⟩) ?_ ?_
                rotate_left
                · intro w'
                  go_simp
                  with_reducible rfl
                rotate_left
                · simp only [Act.put, List.setIfInBounds_toArray, List.set_cons_zero, List.set_cons_succ, i64_w, i32_w]
                  rfl
                refine pure_ (i := 8) (N := some 55) (v := ?_) (a' := ?_) #[true, true, true, true, true, true, true, true, true, false, false, false, false, false, false] rfl rfl (by kernel_rfl) (fun _ _ _ h => h) (Or.inl ⟨by rfl, ?_⟩) ?_ ?_
                rotate_left
                · intro w'
                  go_simp
                  with_reducible rfl
                rotate_left
                · simp only [Act.put, List.setIfInBounds_toArray, List.set_cons_zero, List.set_cons_succ, i64_w, i32_w]
                  rfl
                refine pure_ (i := 9) (N := some 56) (v := ?_) (a' := ?_) #[true, true, true, true, true, true, true, true, true, true, false, false, false, false, false] rfl rfl (by kernel_rfl) (fun _ _ _ h => h) (Or.inl ⟨by rfl, ?_⟩) ?_ ?_
                rotate_left
                · intro w'
                  go_simp
                  with_reducible rfl
                rotate_left
                · simp only [Act.put, List.setIfInBounds_toArray, List.set_cons_zero, List.set_cons_succ, i64_w, i32_w]
                  rfl
                refine pure_ (i := 10) (N := some 57) (v := ?_) (a' := ?_) #[true, true, true, true, true, true, true, true, true, true, true, false, false, false, false] rfl rfl (by kernel_rfl) (fun _ _ _ h => h) (Or.inl ⟨by rfl, ?_⟩) ?_ ?_
                rotate_left
                · intro w'
                  go_simp
                  with_reducible rfl
                rotate_left
                · simp only [Act.put, List.setIfInBounds_toArray, List.set_cons_zero, List.set_cons_succ, i64_w, i32_w]
                  rfl
                refine pure_ (i := 11) (N := some 58) (v := ?_) (a' := ?_) #[true, true, true, true, true, true, true, true, true, true, true, true, false, false, false] rfl rfl (by kernel_rfl) (fun _ _ _ h => h) (Or.inl ⟨by rfl, ?_⟩) ?_ ?_
                rotate_left
                · intro w'
                  go_simp
                  with_reducible rfl
                rotate_left
                · simp only [Act.put, List.setIfInBounds_toArray, List.set_cons_zero, List.set_cons_succ, i64_w, i32_w]
                  rfl
                refine pure_ (i := 12) (N := some 59) (v := ?_) (a' := ?_) #[true, true, true, true, true, true, true, true, true, true, true, true, true, false, false] rfl rfl (by kernel_rfl) (fun _ _ _ h => h) (Or.inl ⟨by rfl, ?_⟩) ?_ ?_
                rotate_left
                · intro w'
                  go_simp
                  with_reducible rfl
                rotate_left
                · simp only [Act.put, List.setIfInBounds_toArray, List.set_cons_zero, List.set_cons_succ, i64_w, i32_w]
                  rfl
                refine pure_ (i := 13) (N := some 60) (v := ?_) (a' := ?_) #[true, true, true, true, true, true, true, true, true, true, true, true, true, true, false] rfl rfl (by kernel_rfl) (fun _ _ _ h => h) (Or.inl ⟨by rfl, ?_⟩) ?_ ?_
                rotate_left
                · intro w'
                  go_simp
                  with_reducible rfl
                rotate_left
                · simp only [Act.put, List.setIfInBounds_toArray, List.set_cons_zero, List.set_cons_succ, i64_w, i32_w]
                  rfl
                refine pure_ (i := 14) (N := some 61) (v := ?_) (a' := ?_) #[true, true, true, true, true, true, true, true, true, true, true, true, true, true, true] rfl rfl (by kernel_rfl) (fun _ _ _ h => h) (Or.inl ⟨by rfl, ?_⟩) ?_ ?_
                rotate_left
                · intro w'
                  go_simp
                  with_reducible rfl
                rotate_left
                · simp only [Act.put, List.setIfInBounds_toArray, List.set_cons_zero, List.set_cons_succ, i64_w, i32_w]
                  rfl
                refine done_ (by kernel_rfl) ?_
                refine calm_normal ?_
                go_wp2
                refine ⟨⟨j + 1, by omega, by simp, fun i x hi hx => ?_, hB3.drew⟩, by simp [intOf]; omega⟩
                rcases Nat.lt_or_ge i j with h | h
                · exact HNJ.out i x h hx
                · obtain rfl : i = j := by omega
                  rw [HS.out] at hx; cases hx; exact HF.out
              · have HF : Hid (failB av rv s j = true) := by unfold Hid failB; rw [c1, c2]; rfl
                refine wp_calm ?_
                refine start_ (n := 15) (S := fun w' => w'.cell? ⟨wb.heap.size, 0, none⟩ = some (.int .i64 s.f0) ∧ w'.cell? ⟨g1, k, none⟩ = some (.int .i64 av)) (ds := []) #[false, false, false, false, false, false, false, false, false, false, false, false, false, false, false] (by kernel_rfl) rfl rfl ⟨p0, p1⟩ (fun hHeld => ?_)
                refine pure_ (i := 0) (N := some 47) (v := ?_) (a' := ?_) #[true, false, false, false, false, false, false, false, false, false, false, false, false, false, false] rfl rfl (by kernel_rfl) (fun _ _ _ h => h) (Or.inl ⟨by rfl, ?_⟩) ?_ ?_
                rotate_left
                · intro w'
                  go_simp
                  with_reducible rfl
                rotate_left
                · simp only [Act.put, List.setIfInBounds_toArray, List.set_cons_zero, List.set_cons_succ, i64_w, i32_w]
                  rfl
                refine pure_ (i := 2) (N := some 49) (v := ?_) (a' := ?_) #[true, false, true, false, false, false, false, false, false, false, false, false, false, false, false] rfl rfl (by kernel_rfl) (fun _ _ _ h => h) (Or.inl ⟨by rfl, ?_⟩) ?_ ?_
                rotate_left
                · intro w'
                  go_simp
                  with_reducible rfl
                rotate_left
                · simp only [Act.put, List.setIfInBounds_toArray, List.set_cons_zero, List.set_cons_succ, i64_w, i32_w]
                  rfl
                refine pure_ (i := 3) (N := some 50) (v := ?_) (a' := ?_) #[true, false, true, true, false, false, false, false, false, false, false, false, false, false, false] rfl rfl (by kernel_rfl) (fun _ _ _ h => h) (Or.inl ⟨by rfl, ?_⟩) ?_ ?_
                rotate_left
                · intro w'
                  go_simp
                  with_reducible rfl
                rotate_left
                · simp only [Act.put, List.setIfInBounds_toArray, List.set_cons_zero, List.set_cons_succ, i64_w, i32_w]
                  rfl
                refine pure_ (i := 4) (N := some 51) (v := ?_) (a' := ?_) #[true, false, true, true, true, false, false, false, false, false, false, false, false, false, false] rfl rfl (by kernel_rfl) (fun _ _ _ h => h) (Or.inl ⟨by rfl, ?_⟩) ?_ ?_
                rotate_left
                · intro w'
                  go_simp
                  with_reducible rfl
                rotate_left
                · simp only [Act.put, List.setIfInBounds_toArray, List.set_cons_zero, List.set_cons_succ, i64_w, i32_w]
                  rfl
                refine take_ (i := 1) (N := some 48) (v := ?_) (a' := ?_) #[true, true, true, true, true, false, false, false, false, false, false, false, false, false, false] rfl rfl (by kernel_rfl) (fun _ _ _ h => h) (Or.inl ⟨by rfl, ?_⟩) hHeld ?_ ?_
                rotate_left
                · rintro w' ⟨s0, s1⟩
                  go_simp
                  with_reducible rfl
                rotate_left
                · simp only [Act.put, List.setIfInBounds_toArray, List.set_cons_zero, List.set_cons_succ, i64_w, i32_w]
                  rfl
                refine take_ (i := 5) (N := some 52) (v := ?_) (a' := ?_) #[true, true, true, true, true, true, false, false, false, false, false, false, false, false, false] rfl rfl (by kernel_rfl) (fun _ _ _ h => h) (Or.inl ⟨by rfl, ?_⟩) hHeld ?_ ?_
                rotate_left
                · rintro w' ⟨s0, s1⟩
                  go_simp
                  with_reducible rfl
                rotate_left
                · simp only [Act.put, List.setIfInBounds_toArray, List.set_cons_zero, List.set_cons_succ, i64_w, i32_w]
                  rfl
                refine pure_ (i := 6) (N := some 53) (v := ?_) (a' := ?_) #[true, true, true, true, true, true, true, false, false, false, false, false, false, false, false] rfl rfl (by kernel_rfl) (fun _ _ _ h => h) (Or.inl ⟨by rfl, ?_⟩) ?_ ?_
                rotate_left
                · intro w'
                  go_simp
                  with_reducible rfl
                rotate_left
                · simp only [Act.put, List.setIfInBounds_toArray, List.set_cons_zero, List.set_cons_succ, i64_w, i32_w]
                  rfl
                refine pure_ (i := 7) (N := some 54) (v := ?_) (a' := ?_) #[true, true, true, true, true, true, true, true, false, false, false, false, false, false, false] rfl rfl (by kernel_rfl) (fun _ _ _ h => h) (Or.inl ⟨by rfl, ?_⟩) ?_ ?_
                rotate_left
                · intro w'
                  go_simp
                  with_reducible rfl
                rotate_left
                · simp only [Act.put, List.setIfInBounds_toArray, List.set_cons_zero, List.set_cons_succ, i64_w, i32_w]
                  rfl
                refine pure_ (i := 8) (N := some 55) (v := ?_) (a' := ?_) #[true, true, true, true, true, true, true, true, true, false, false, false, false, false, false] rfl rfl (by kernel_rfl) (fun _ _ _ h => h) (Or.inl ⟨by rfl, ?_⟩) ?_ ?_
                rotate_left
                · intro w'
                  go_simp
                  with_reducible rfl
                rotate_left
                · simp only [Act.put, List.setIfInBounds_toArray, List.set_cons_zero, List.set_cons_succ, i64_w, i32_w]
                  rfl
                refine pure_ (i := 9) (N := some 56) (v := ?_) (a' := ?_) #[true, true, true, true, true, true, true, true, true, true, false, false, false, false, false] rfl rfl (by kernel_rfl) (fun _ _ _ h => h) (Or.inl ⟨by rfl, ?_⟩) ?_ ?_
                rotate_left
                · intro w'
                  go_simp
                  with_reducible rfl
                rotate_left
                · simp only [Act.put, List.setIfInBounds_toArray, List.set_cons_zero, List.set_cons_succ, i64_w, i32_w]
                  rfl
                refine pure_ (i := 10) (N := some 57) (v := ?_) (a' := ?_) #[true, true, true, true, true, true, true, true, true, true, true, false, false, false, false] rfl rfl (by kernel_rfl) (fun _ _ _ h => h) (Or.inl ⟨by rfl, ?_⟩) ?_ ?_
                rotate_left
                · intro w'
                  go_simp
                  with_reducible rfl
                rotate_left
                · simp only [Act.put, List.setIfInBounds_toArray, List.set_cons_zero, List.set_cons_succ, i64_w, i32_w]
                  rfl
                refine pure_ (i := 11) (N := some 58) (v := ?_) (a' := ?_) #[true, true, true, true, true, true, true, true, true, true, true, true, false, false, false] rfl rfl (by kernel_rfl) (fun _ _ _ h => h) (Or.inl ⟨by rfl, ?_⟩) ?_ ?_
                rotate_left
                · intro w'
                  go_simp
                  with_reducible rfl
                rotate_left
                · simp only [Act.put, List.setIfInBounds_toArray, List.set_cons_zero, List.set_cons_succ, i64_w, i32_w]
                  rfl
                refine pure_ (i := 12) (N := some 59) (v := ?_) (a' := ?_) #[true, true, true, true, true, true, true, true, true, true, true, true, true, false, false] rfl rfl (by kernel_rfl) (fun _ _ _ h => h) (Or.inl ⟨by rfl, ?_⟩) ?_ ?_
                rotate_left
                · intro w'
                  go_simp
                  with_reducible rfl
                rotate_left
                · simp only [Act.put, List.setIfInBounds_toArray, List.set_cons_zero, List.set_cons_succ, i64_w, i32_w]
                  rfl
                refine pure_ (i := 13) (N := some 60) (v := ?_) (a' := ?_) #[true, true, true, true, true, true, true, true, true, true, true, true, true, true, false] rfl rfl (by kernel_rfl) (fun _ _ _ h => h) (Or.inl ⟨by rfl, ?_⟩) ?_ ?_
                rotate_left
                · intro w'
                  go_simp
                  with_reducible rfl
                rotate_left
                · simp only [Act.put, List.setIfInBounds_toArray, List.set_cons_zero, List.set_cons_succ, i64_w, i32_w]
                  rfl
                refine pure_ (i := 14) (N := some 61) (v := ?_) (a' := ?_) #[true, true, true, true, true, true, true, true, true, true, true, true, true, true, true] rfl rfl (by kernel_rfl) (fun _ _ _ h => h) (Or.inl ⟨by rfl, ?_⟩) ?_ ?_
                rotate_left
                · intro w'
                  go_simp
                  with_reducible rfl
                rotate_left
                · simp only [Act.put, List.setIfInBounds_toArray, List.set_cons_zero, List.set_cons_succ, i64_w, i32_w]
                  rfl
                refine done_ (by kernel_rfl) ?_
                refine calm_normal ?_
                go_wp2
                go_ret3
                have := HFin.out k j (.inl ⟨k, hlt, rfl, ⟨j, s, HS.out, by rw [HGA.out, HGR.out]; exact HF.out⟩, HNO.out⟩)
                refine ⟨this.1.trans ((hB.trans (hB3.mono hB.size)).mono HB0.out.size).drew, this.2⟩
          · obtain rfl : j = l.length := by omega
            have HNF : Hid (¬ failAt aks rs l k) := by
              rintro ⟨i, s, hs, hf⟩
              rw [HGA.out, HGR.out] at hf
              rw [hnj i s ((List.getElem?_eq_some_iff.1 hs).1) hs] at hf
              cases hf
            clear hnj
            go_wp2
            refine ⟨⟨k + 1, by omega, by simp, fun i hi => ?_, hB.trans (hBb.mono hB.size)⟩, by simp [intOf]; omega⟩
            rcases Nat.lt_or_ge i k with h | h
            · exact HNO.out i h
            · obtain rfl : i = k := by omega
              exact HNF.out
      · obtain rfl : k = rs.length := by omega
        have HNO := Lib.hid hno
        clear hno
        go_wp2
        go_ret3
        have := HFin.out (-1) (-1) (.inr ⟨rfl, HNO.out⟩)
        exact ⟨this.1.trans (hB.mono HB0.out.size), this.2⟩
  · have HE := Lib.hid h0
    obtain ⟨er, her⟩ : ∃ er, begErr G T l ls = er := ⟨_, rfl⟩
    have hne : (er == 0) = false := by rw [← her]; simpa using h0
    have HR := Lib.hid her
    clear h0 hc hn her
    go_enter Try.func12, Try.ntmps12
    go_wp2_with (first | (go_at_call 17; refine (beg_any T hk hlc _ (HC.out.alloc _) Al nb noff lc ls hls hA (HN.out.keep (fun o => Below.cell ((Below.refl _ w).alloc (Nat.le_refl _) _) hnb)) (by simp; omega)).mono ?_; rintro e w1 ⟨hB1, hp⟩; rw [if_neg HE.out, HR.out] at hp; subst hp))
    go_ret3
    have hB := (((Below.refl _ w).alloc (Nat.le_refl _) _).trans (hB1.mono (by simp)))
    refine ⟨hB, ?_⟩
    rw [if_neg HE.out, HR.out]
    rfl
end Go.Proofs.Ytiglkpgoakibaab
