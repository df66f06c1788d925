/- Play: the walk. Conditions: the cluster is valid, there are at most 1000 nudges. -/
import Derived.Test.YtiglkpgoakibaabFailW
namespace Go.Proofs.Ytiglkpgoakibaab
open Go.RowKit Go.Shelf PTopRegrouped Go.Proofs.YtiglkpgoakibaabW.PrintWords Go.Proofs.YtiglkpgoakibaabW.PrintLast
attribute [local go_sem] Oper.semAt_some
set_option linter.unusedSimpArgs false

theorem made_zero (n : Nat) : (madeCells (Value.int .i64 0).cells (n * 1)).toList = (List.replicate n (0 : Int)).map (Value.int .i64) := by
  apply List.ext_getElem
  · simp [madeCells]
  · intro i h1 h2
    simp [madeCells, Value.cells, Nat.mod_one]
theorem Ints.at_ {w : World} {base g n cap : Nat} {xs : List Int} (h : Ints w base (.slice (some ⟨g, 0, none⟩) n cap) xs) {j : Nat} {x : Int} (hx : xs[j]? = some x) : w.cell? ⟨g, j, none⟩ = some (.int .i64 x) := by
  have := (List.getElem?_eq_some_iff.1 hx).1
  rcases h.2 with ⟨h2, _⟩ | ⟨g', cap', cur, hv, hr⟩
  · cases h2
  · cases hv
    rw [World.ownsRow.cellAt h j (by omega), List.getElem?_map, hx]
    rfl
theorem Ints.len {w : World} {base g n cap : Nat} {xs : List Int} (h : Ints w base (.slice (some ⟨g, 0, none⟩) n cap) xs) : n = xs.length := by
  rcases h.2 with ⟨h2, _⟩ | ⟨g', cap', cur, hv, hr⟩
  · cases h2
  · cases hv; rfl
theorem Ints.fro {w : World} {base g n cap : Nat} {xs : List Int} (h : Ints w base (.slice (some ⟨g, 0, none⟩) n cap) xs) (j : Nat) : w.frozen? ⟨g, j, none⟩ = false := by
  cases h.len
  exact World.ownsRow.frozenAt h j
theorem Ints.put {w : World} {base g n cap : Nat} {xs : List Int} (h : Ints w base (.slice (some ⟨g, 0, none⟩) n cap) xs) (j : Nat) (x : Int) : Ints (w.setCell ⟨g, j, none⟩ (.int .i64 x)) base (.slice (some ⟨g, 0, none⟩) n cap) (xs.set j x) := by
  cases h.len
  have h1 := (World.ownsRow.stored h j (.int .i64 x)).1
  unfold Ints
  rw [List.length_set, List.map_set]
  exact h1

def PlayPost (G H T : Int) (l : List S31) (ls : List Ng) (w : World) (e : Ending) (w' : World) : Prop :=
  Below w.heap.size w w' ∧ (if begErr G T l ls = 0 then ∃ v1 v2, e = .returned (.tuple #[v1, v2, .int .i64 0]) ∧ Ints w' w.heap.size v1 (rowsL H G.toNat ls (l.map newNd) T.toNat) ∧ Ints w' w.heap.size v2 (enTo (rowsL H G.toNat ls (l.map newNd) T.toNat) l T.toNat)
    else e = .returned (.tuple #[.slice none 0 0, .slice none 0 0, .int .i64 (begErr G T l ls)]))

set_option maxRecDepth 100000 in
set_option maxHeartbeats 2000000 in
theorem play_any {G H : Int} (T : Int) {A : Option Addr} {b off c : Nat} {l : List S31} (hk : ClOk G H l) (hlc : l.length ≤ c) (w : World) (hc : ClAt w A b off l)
    (Al : Option Addr) (nb noff lc : Nat) (ls : List Ng) (hls : ls.length ≤ 1000) (hA : 0 < ls.length → Al = some ⟨nb, noff, none⟩) (hn : NgAt w nb noff ls) (hnb : nb < w.heap.size) :
    Calls Try.prog 8 #[.agg #[.int .i64 G, .int .i64 H, .slice A l.length c], .int .i64 T, .slice Al ls.length lc] w (PlayPost G H T l ls w) := by
  have hu24 := Try.underlying24
  have HC := Lib.hid hc
  have HN := Lib.hid hn
  have hl16 := hk.len
  obtain ⟨i0, hi, hz0, hz1, hz2⟩ := info_parts info3'
  have H0 := Lib.hid (And.intro hi (And.intro hz0 (And.intro hz1 hz2)))
  clear hi hz0 hz1 hz2
  by_cases h0 : begErr G T l ls = 0
  · have HE := Lib.hid h0
    obtain ⟨t0, t1, _, _⟩ := begErr_zero h0
    clear h0 hc hn
    have q0 : (w.alloc (.cells #[.int .i64 G, .int .i64 H, .slice A l.length c] 24)).heap[w.heap.size]? = some (.cells #[.int .i64 G, .int .i64 H, .slice A l.length c] 24 (0, 0)) := allocNew _ _ _ rfl
    have Q0 := Lib.hid q0
    clear q0
    go_enter Try.func8, Try.ntmps8
    go_wp2_with (first | (go_at_call 17; refine (beg_any T hk hlc _ (HC.out.alloc _) Al nb noff lc ls hls hA (HN.out.keep (fun o => Below.cell ((Below.refl _ w).alloc (Nat.le_refl _) _) hnb)) (by simp; omega)).mono ?_; rintro e w1 ⟨hB1, hp⟩; rw [if_pos HE.out] at hp; obtain ⟨P, rfl, hP, hpG, hpH, hpl, hp1, hp2⟩ := hp; have HP := Lib.hid hP; have HG := Lib.hid hpG; have HH := Lib.hid hpH; have HL := Lib.hid hpl; have HB1 := Lib.hid hB1; clear hP hpG hpH hpl hB1) | (go_at_call 18; refine (run_beg hk HE.out HP.out HG.out HH.out HL.out).mono ?_; rintro e w2 ⟨v1, v2, rfl, hg2, hv1, hv2⟩; obtain ⟨A1, g1, c1, rfl, hc1, hr1⟩ := hv1.form; obtain ⟨A2, g2, c2, rfl, hc2, hr2⟩ := hv2.form; have HR1 := Lib.hid hr1; have HR2 := Lib.hid hr2; have HG2 := Lib.hid hg2; have HV2 := Lib.hid hv2; have hz12 := Lib.hid hg2.size; have Q2 : w2.cell? ⟨w.heap.size, 2, none⟩ = some (.slice A l.length c) := (blk_cell' (((HB1.out.grown hg2 HB1.out.size (fun k e => by cases e; exact hp2) : Below (w.alloc (.cells #[.int .i64 G, .int .i64 H, .slice A l.length c] 24)).heap.size _ w2).block _ (by simp)).trans Q0.out) 2).trans rfl; have hzz : w.heap.size < w2.heap.size := World.block_lt_of_cell? w2 _ Q2; clear hv1 hv2 hr1 hr2 hg2) | ((with_reducible refine gate_dst (N := 33) rfl ?_); refine wpList_make_full w2 rfl _ _ 34 rfl w2.heap.size 3 i0 (.int .i64 0) 1 Try.underlying34 H0.out.1 H0.out.2.1 H0.out.2.2.1 .i64 .i64 l.length l.length l.length rfl rfl rfl rfl (by rw [H0.out.2.2.2]; omega) (by simp only [maxLen]; omega) (Nat.le_refl _) ?_; intro w3 hm3 hg3; rw [made_zero] at hm3))
    --LOOP
    have hI3 : Ints w3 w2.heap.size (.slice (some ⟨w2.heap.size, 0, none⟩) l.length l.length) (List.replicate l.length 0) := by unfold Ints; rw [List.length_replicate]; exact hm3
    have hlt3 : w2.heap.size < w3.heap.size := (World.ownsRow.lt hI3 _ rfl).2
    have hB23 : Below w2.heap.size w2 w3 := (Below.refl _ w2).grown hg3 (Nat.le_refl _) (fun k e => by cases e)
    have hB2 : Below w.heap.size (w.alloc (.cells #[.int .i64 G, .int .i64 H, .slice A l.length c] 24)) w2 := (HB1.out.mono (by simp)).grown HG2.out (Nat.le_trans (by simp) HB1.out.size) (fun k e => by cases e; simp at hp2; omega)
    have hB0 : Below w.heap.size w w2 := ((Below.refl _ w).alloc (Nat.le_refl _) _).trans hB2
    have HCL := Lib.hid ((HC.out.below hB0 HC.out.bb).below hB23 (by have := HC.out.bb; omega))
    have hcb := HC.out.bb
    obtain ⟨rs, hrs⟩ : ∃ rs, rowsL H G.toNat ls (l.map newNd) T.toNat = rs := ⟨_, rfl⟩
    have hTr : T.toNat = rs.length := by rw [← hrs, rowsL_length]
    have hlr : rs.length ≤ 1000 := by rw [← hrs, rowsL_length]; omega
    rw [hrs] at HR2 hc2 HV2
    rw [hrs]
    have HRS := Lib.hid hrs
    have HM3 := Lib.hid hm3
    have HI3 := Lib.hid hI3
    have f3 : w3.cell? ⟨w.heap.size, 2, none⟩ = some (.slice A l.length c) := (below_at hB23 hzz).trans Q2
    have HFin : Hid (∀ w' : World, Bel w3.heap.size w2.heap.size w3 w' → Ints w' w2.heap.size (.slice (some ⟨w2.heap.size, 0, none⟩) l.length l.length) (enTo rs l rs.length) → PlayPost G H T l ls w (.returned (.tuple #[.slice A2 rs.length c2, .slice (some ⟨w2.heap.size, 0, none⟩) l.length l.length, .int .i64 0])) w') := fun w' hb hi => by
      have h2 : Below w.heap.size w w' := (hB0.trans (hB23.mono hB0.size)).grown hb.grown (by omega) (fun k e => by cases e; omega)
      refine ⟨h2, ?_⟩
      rw [if_pos HE.out, HRS.out, hTr]
      refine ⟨_, _, rfl, ?_, hi.lower (by omega)⟩
      have h3 := HV2.out.kept hg3 (row_none _)
      have h4 := h3.kept hb.grown (.inr (fun e => row_old (Nat.le_refl _) HV2.out e.symm))
      exact h4.lower (Nat.le_trans (by simp) (Nat.le_trans HB1.out.size (Nat.le_refl _)))
    clear hrs hm3 hI3 Q2
    have hmx : Try.prog.follows .mixedOrders = true := by kernel_rfl
    go_loopw [36] (fun i wr => ∃ k : Nat, k ≤ rs.length ∧ i = .int .i64 k ∧ Ints wr w2.heap.size (.slice (some ⟨w2.heap.size, 0, none⟩) l.length l.length) (enTo rs l k) ∧ Bel w3.heap.size w2.heap.size w3 wr) (fun i _ => rs.length - (intOf i).toNat)
    case atStart => exact ⟨0, Nat.zero_le _, rfl, HI3.out, Bel.refl _ _ _⟩
    case round =>
      obtain ⟨k, hk2, rfl, hI, hB⟩ := hrel
      by_cases hlt : k < rs.length
      · obtain ⟨wa, rfl⟩ : ∃ wa : World, wa = wr := ⟨_, rfl⟩
        obtain ⟨rv, hrv⟩ : ∃ rv, rs[k]? = some rv := ⟨_, List.getElem?_eq_getElem hlt⟩
        have h2 := HR2.out.lt (by omega)
        obtain rfl := HR2.out.hA (by omega)
        have f2 : wa.cell? ⟨g2, k, none⟩ = some (.int .i64 rv) := (hB.at_ (by omega) (by omega)).trans ((below_at hB23 h2).trans (HR2.out.hc k rv hrv))
        have f4 : wa.cell? ⟨w.heap.size, 2, none⟩ = some (.slice A l.length c) := (hB.at_ (by omega) (by omega)).trans f3
        have hgr : rs.getD k 0 = rv := by rw [List.getD_eq_getElem?_getD, hrv]; rfl
        have HGR := Lib.hid hgr
        have HI := Lib.hid hI
        clear hrv hgr hI
        go_wp2
        go_loopw [43] (fun i wb => ∃ j : Nat, j ≤ l.length ∧ i = .int .i64 j ∧ Ints wb w2.heap.size (.slice (some ⟨w2.heap.size, 0, none⟩) l.length l.length) (enStep rv l (enTo rs l k) j) ∧ Bel w3.heap.size w2.heap.size w3 wb) (fun i _ => l.length - (intOf i).toNat)
        case atStart => exact ⟨0, Nat.zero_le _, rfl, HI.out, hB⟩
        case round =>
          obtain ⟨j, hj, rfl, hIj, hBb⟩ := hrel
          obtain ⟨wb, rfl⟩ : ∃ wb : World, wb = wr := ⟨_, rfl⟩
          by_cases hlj : j < l.length
          · obtain ⟨s, hs⟩ : ∃ s, l[j]? = some s := ⟨_, List.getElem?_eq_getElem hlj⟩
            obtain rfl := HCL.out.hA (by omega)
            have d0 : wb.cell? ⟨b, off + j * 5, none⟩ = some (.int .i64 s.f0) := (hBb.at_ (by omega) (by omega)).trans (HCL.out.hc j s hs 0 _ rfl)
            have d1 : wb.cell? ⟨b, off + j * 5 + 1, none⟩ = some (.int .i64 s.f1) := (hBb.at_ (by omega) (by omega)).trans (HCL.out.hc j s hs 1 _ rfl)
            have d2 : wb.cell? ⟨b, off + j * 5 + 2, none⟩ = some (.int .i64 s.f2) := (hBb.at_ (by omega) (by omega)).trans (HCL.out.hc j s hs 2 _ rfl)
            have d3 : wb.cell? ⟨b, off + j * 5 + 3, none⟩ = some (.int .i64 s.f3) := (hBb.at_ (by omega) (by omega)).trans (HCL.out.hc j s hs 3 _ rfl)
            have d4 : wb.cell? ⟨b, off + j * 5 + 4, none⟩ = some (.int .i64 s.f4) := (hBb.at_ (by omega) (by omega)).trans (HCL.out.hc j s hs 4 _ rfl)
            obtain ⟨ev, hev⟩ : ∃ ev, (enStep rv l (enTo rs l k) j)[j]? = some ev := ⟨_, List.getElem?_eq_getElem (by rw [enStep_length, enTo_length]; omega)⟩
            have hgd : (enStep rv l (enTo rs l k) j).getD j 0 = ev := by rw [List.getD_eq_getElem?_getD, hev]; rfl
            have e0 := hIj.at_ hev
            have HS := Lib.hid hs
            have HEV := Lib.hid hgd
            have HIJ := Lib.hid hIj
            have hbs := hBb.size
            clear hs hgd hev hIj
            obtain ⟨w4, hw4⟩ : ∃ w4, wb.alloc (.cells #[.int .i64 s.f0, .int .i64 s.f1, .int .i64 s.f2, .int .i64 s.f3, .int .i64 s.f4] 31) = w4 := ⟨_, rfl⟩
            have h4b : w4.heap[wb.heap.size]? = some (.cells #[.int .i64 s.f0, .int .i64 s.f1, .int .i64 s.f2, .int .i64 s.f3, .int .i64 s.f4] 31 (0, 0)) := by subst hw4; exact allocNew _ _ _ rfl
            have hB4 : Bel w3.heap.size w2.heap.size w3 w4 := by subst hw4; exact hBb.alloc hbs _
            have HI4 : Hid (Ints w4 w2.heap.size (.slice (some ⟨w2.heap.size, 0, none⟩) l.length l.length) (enStep rv l (enTo rs l k) j)) := by subst hw4; exact HIJ.out.kept (World.grownBy_alloc _ _ none) (row_none _)
            have p0 : w4.cell? ⟨w2.heap.size, j, none⟩ = some (.int .i64 ev) := by subst hw4; exact cell_alloc e0 _
            have p1 : w4.cell? ⟨wb.heap.size, 1, none⟩ = some (.int .i64 s.f1) := (blk_cell' h4b 1).trans rfl
            have p2 : w4.cell? ⟨wb.heap.size, 2, none⟩ = some (.int .i64 s.f2) := (blk_cell' h4b 2).trans rfl
            have p4 : ∀ i, w4.frozen? ⟨w2.heap.size, i, none⟩ = false := fun i => HI4.out.fro i
            have hz4 : wb.heap.size ≠ w2.heap.size := by omega
            have HW4 := Lib.hid hw4
            clear hw4 e0
            cases c1 : (Go.bits .and .i64 (rv / 2 ^ j) 1 == 1)
            · go_wp2
              rw [HW4.out]
              clear d0 d1 d2 d3 d4
              have hea : enAdd rv s j = s.f2 := by unfold enAdd bitB; rw [c1]; rfl
              have HEA := Lib.hid hea
              clear hea
              refine wp_calm ?_
              refine start_ (n := 9) (S := fun w' => w'.cell? ⟨w2.heap.size, j, none⟩ = some (.int .i64 ev) ∧ w'.cell? ⟨wb.heap.size, 2, none⟩ = some (.int .i64 s.f2)) (ds := [8]) #[false, false, false, false, false, false, false, false, false] (by kernel_rfl) rfl rfl ⟨p0, p2⟩ (fun hHeld => ?_)
              refine pure_ (i := 0) (N := some 61) (v := ?_) (a' := ?_) #[true, false, false, false, false, false, false, false, false] rfl rfl (by kernel_rfl) (fun _ _ _ h => h) (Or.inl ⟨by rfl, ?_⟩) ?_ ?_
              rotate_left
              · intro w'
                go_simp
                with_reducible rfl
              rotate_left
              · simp only [Act.put, List.setIfInBounds_toArray, List.set_cons_zero, List.set_cons_succ, i64_w, i32_w]
                rfl
              refine pure_ (i := 1) (N := some 62) (v := ?_) (a' := ?_) #[true, true, false, false, false, false, false, false, false] rfl rfl (by kernel_rfl) (fun _ _ _ h => h) (Or.inl ⟨by rfl, ?_⟩) ?_ ?_
              rotate_left
              · intro w'
                go_simp
                with_reducible rfl
              rotate_left
              · simp only [Act.put, List.setIfInBounds_toArray, List.set_cons_zero, List.set_cons_succ, i64_w, i32_w]
                rfl
              refine pure_ (i := 2) (N := some 63) (v := ?_) (a' := ?_) #[true, true, true, false, false, false, false, false, false] rfl rfl (by kernel_rfl) (fun _ _ _ h => h) (Or.inl ⟨by rfl, ?_⟩) ?_ ?_
              rotate_left
              · intro w'
                go_simp
                with_reducible rfl
              rotate_left
              · simp only [Act.put, List.setIfInBounds_toArray, List.set_cons_zero, List.set_cons_succ, i64_w, i32_w]
                rfl
              refine pure_ (i := 4) (N := some 65) (v := ?_) (a' := ?_) #[true, true, true, false, true, false, false, false, false] rfl rfl (by kernel_rfl) (fun _ _ _ h => h) (Or.inl ⟨by rfl, ?_⟩) ?_ ?_
              rotate_left
              · intro w'
                go_simp
                with_reducible rfl
              rotate_left
              · simp only [Act.put, List.setIfInBounds_toArray, List.set_cons_zero, List.set_cons_succ, i64_w, i32_w]
                rfl
              refine take_ (i := 3) (N := some 64) (v := ?_) (a' := ?_) #[true, true, true, true, true, false, false, false, false] rfl rfl (by kernel_rfl) (fun _ _ _ h => h) (Or.inl ⟨by rfl, ?_⟩) hHeld ?_ ?_
              rotate_left
              · rintro w' ⟨s0, s1⟩
                go_simp
                with_reducible rfl
              rotate_left
              · simp only [Act.put, List.setIfInBounds_toArray, List.set_cons_zero, List.set_cons_succ, i64_w, i32_w]
                rfl
              refine take_ (i := 5) (N := some 66) (v := ?_) (a' := ?_) #[true, true, true, true, true, true, false, false, false] rfl rfl (by kernel_rfl) (fun _ _ _ h => h) (Or.inl ⟨by rfl, ?_⟩) hHeld ?_ ?_
              rotate_left
              · rintro w' ⟨s0, s1⟩
                go_simp
                with_reducible rfl
              rotate_left
              · simp only [Act.put, List.setIfInBounds_toArray, List.set_cons_zero, List.set_cons_succ, i64_w, i32_w]
                rfl
              refine pure_ (i := 6) (N := some 67) (v := ?_) (a' := ?_) #[true, true, true, true, true, true, true, false, false] rfl rfl (by kernel_rfl) (fun _ _ _ h => h) (Or.inl ⟨by rfl, ?_⟩) ?_ ?_
              rotate_left
              · intro w'
                go_simp
                with_reducible rfl
              rotate_left
              · simp only [Act.put, List.setIfInBounds_toArray, List.set_cons_zero, List.set_cons_succ, i64_w, i32_w]
                rfl
              refine pure_ (i := 7) (N := some 68) (v := ?_) (a' := ?_) #[true, true, true, true, true, true, true, true, false] rfl rfl (by kernel_rfl) (fun _ _ _ h => h) (Or.inl ⟨by rfl, ?_⟩) ?_ ?_
              rotate_left
              · intro w'
                go_simp
                with_reducible rfl
              rotate_left
              · simp only [Act.put, List.setIfInBounds_toArray, List.set_cons_zero, List.set_cons_succ, i64_w, i32_w]
                rfl
              refine last_ (i := 8) (N := none) #[true, true, true, true, true, true, true, true, true] rfl rfl (by kernel_rfl) (by decide) (fun K hK => ?_)
              refine skip_ (w1 := ?_) (by rfl) rfl ?_ ?_
              rotate_left
              · go_simp
                rfl
              refine hK.out _ _ ?_
              clear hK K
              refine done_ (by kernel_rfl) ?_
              refine calm_normal ?_
              go_wp2
              refine ⟨⟨j + 1, by omega, by simp, ?_, ?_⟩, by simp [intOf]; omega⟩
              · rw [enStep, HS.out]
                dsimp only
                rw [HEV.out, HEA.out]
                exact Ints.put (w := w4.drew) HI4.out j _
              · exact (hB4.drew.set (p := ⟨w2.heap.size, j, none⟩) (.inl rfl) _)
            · go_wp2
              rw [HW4.out]
              clear d0 d1 d2 d3 d4
              have hea : enAdd rv s j = s.f1 := by unfold enAdd bitB; rw [c1]; rfl
              have HEA := Lib.hid hea
              clear hea
              refine wp_calm ?_
              refine start_ (n := 9) (S := fun w' => w'.cell? ⟨w2.heap.size, j, none⟩ = some (.int .i64 ev) ∧ w'.cell? ⟨wb.heap.size, 1, none⟩ = some (.int .i64 s.f1)) (ds := [8]) #[false, false, false, false, false, false, false, false, false] (by kernel_rfl) rfl rfl ⟨p0, p1⟩ (fun hHeld => ?_)
              refine pure_ (i := 0) (N := some 53) (v := ?_) (a' := ?_) #[true, false, false, false, false, false, false, false, false] rfl rfl (by kernel_rfl) (fun _ _ _ h => h) (Or.inl ⟨by rfl, ?_⟩) ?_ ?_
              rotate_left
              · intro w'
                go_simp
                with_reducible rfl
              rotate_left
              · simp only [Act.put, List.setIfInBounds_toArray, List.set_cons_zero, List.set_cons_succ, i64_w, i32_w]
                rfl
              refine pure_ (i := 1) (N := some 54) (v := ?_) (a' := ?_) #[true, true, false, false, false, false, false, false, false] rfl rfl (by kernel_rfl) (fun _ _ _ h => h) (Or.inl ⟨by rfl, ?_⟩) ?_ ?_
              rotate_left
              · intro w'
                go_simp
                with_reducible rfl
              rotate_left
              · simp only [Act.put, List.setIfInBounds_toArray, List.set_cons_zero, List.set_cons_succ, i64_w, i32_w]
                rfl
              refine pure_ (i := 2) (N := some 55) (v := ?_) (a' := ?_) #[true, true, true, false, false, false, false, false, false] rfl rfl (by kernel_rfl) (fun _ _ _ h => h) (Or.inl ⟨by rfl, ?_⟩) ?_ ?_
              rotate_left
              · intro w'
                go_simp
                with_reducible rfl
              rotate_left
              · simp only [Act.put, List.setIfInBounds_toArray, List.set_cons_zero, List.set_cons_succ, i64_w, i32_w]
                rfl
              refine pure_ (i := 4) (N := some 57) (v := ?_) (a' := ?_) #[true, true, true, false, true, false, false, false, false] rfl rfl (by kernel_rfl) (fun _ _ _ h => h) (Or.inl ⟨by rfl, ?_⟩) ?_ ?_
              rotate_left
              · intro w'
                go_simp
                with_reducible rfl
              rotate_left
              · simp only [Act.put, List.setIfInBounds_toArray, List.set_cons_zero, List.set_cons_succ, i64_w, i32_w]
                rfl
              refine take_ (i := 3) (N := some 56) (v := ?_) (a' := ?_) #[true, true, true, true, true, false, false, false, false] rfl rfl (by kernel_rfl) (fun _ _ _ h => h) (Or.inl ⟨by rfl, ?_⟩) hHeld ?_ ?_
              rotate_left
              · rintro w' ⟨s0, s1⟩
                go_simp
                with_reducible rfl
              rotate_left
              · simp only [Act.put, List.setIfInBounds_toArray, List.set_cons_zero, List.set_cons_succ, i64_w, i32_w]
                rfl
              refine take_ (i := 5) (N := some 58) (v := ?_) (a' := ?_) #[true, true, true, true, true, true, false, false, false] rfl rfl (by kernel_rfl) (fun _ _ _ h => h) (Or.inl ⟨by rfl, ?_⟩) hHeld ?_ ?_
              rotate_left
              · rintro w' ⟨s0, s1⟩
                go_simp
                with_reducible rfl
              rotate_left
              · simp only [Act.put, List.setIfInBounds_toArray, List.set_cons_zero, List.set_cons_succ, i64_w, i32_w]
                rfl
              refine pure_ (i := 6) (N := some 59) (v := ?_) (a' := ?_) #[true, true, true, true, true, true, true, false, false] rfl rfl (by kernel_rfl) (fun _ _ _ h => h) (Or.inl ⟨by rfl, ?_⟩) ?_ ?_
              rotate_left
              · intro w'
                go_simp
                with_reducible rfl
              rotate_left
              · simp only [Act.put, List.setIfInBounds_toArray, List.set_cons_zero, List.set_cons_succ, i64_w, i32_w]
                rfl
              refine pure_ (i := 7) (N := some 60) (v := ?_) (a' := ?_) #[true, true, true, true, true, true, true, true, false] rfl rfl (by kernel_rfl) (fun _ _ _ h => h) (Or.inl ⟨by rfl, ?_⟩) ?_ ?_
              rotate_left
              · intro w'
                go_simp
                with_reducible rfl
              rotate_left
              · simp only [Act.put, List.setIfInBounds_toArray, List.set_cons_zero, List.set_cons_succ, i64_w, i32_w]
                rfl
              refine last_ (i := 8) (N := none) #[true, true, true, true, true, true, true, true, true] rfl rfl (by kernel_rfl) (by decide) (fun K hK => ?_)
              refine skip_ (w1 := ?_) (by rfl) rfl ?_ ?_
              rotate_left
              · go_simp
                rfl
              refine hK.out _ _ ?_
              clear hK K
              refine done_ (by kernel_rfl) ?_
              refine calm_normal ?_
              go_wp2
              refine ⟨⟨j + 1, by omega, by simp, ?_, ?_⟩, by simp [intOf]; omega⟩
              · rw [enStep, HS.out]
                dsimp only
                rw [HEV.out, HEA.out]
                exact Ints.put (w := w4.drew) HI4.out j _
              · exact (hB4.drew.set (p := ⟨w2.heap.size, j, none⟩) (.inl rfl) _)
          · obtain rfl : j = l.length := by omega
            have HIJ := Lib.hid hIj
            clear hIj
            go_wp2
            refine ⟨⟨k + 1, by omega, by simp, ?_, hBb⟩, by simp [intOf]; omega⟩
            rw [enTo, HGR.out]
            exact HIJ.out
      · obtain rfl : k = rs.length := by omega
        have HI := Lib.hid hI
        clear hI
        go_wp2
        go_ret3
        exact HFin.out wr hB HI.out
  · have HE := Lib.hid h0
    obtain ⟨er, her⟩ : ∃ er, begErr G T l ls = er := ⟨_, rfl⟩
    have hne : (er == 0) = false := by rw [← her]; simpa using h0
    have HR := Lib.hid her
    clear h0 hc hn her
    go_enter Try.func8, Try.ntmps8
    go_wp2_with (first | (go_at_call 17; refine (beg_any T hk hlc _ (HC.out.alloc _) Al nb noff lc ls hls hA (HN.out.keep (fun o => Below.cell ((Below.refl _ w).alloc (Nat.le_refl _) _) hnb)) (by simp; omega)).mono ?_; rintro e w1 ⟨hB1, hp⟩; rw [if_neg HE.out, HR.out] at hp; subst hp))
    go_ret3
    have hB := (((Below.refl _ w).alloc (Nat.le_refl _) _).trans (hB1.mono (by simp)))
    refine ⟨hB, ?_⟩
    rw [if_neg HE.out, HR.out]
    rfl
end Go.Proofs.Ytiglkpgoakibaab
