/- The law TopKnots inside its guards: the walk: it holds. Condition: the model and the formula are good and small, and are read. -/
import Derived.Test.YtiglkpgoakibaaaLawWs
namespace Go.Proofs.Ytiglkpgoakibaaa
open Go.RowKit Go.Maps PTopKnots Go.Proofs.YtiglkpgoakibaaaW.PrintWords Go.Proofs.YtiglkpgoakibaaaW.PrintLast Go.Proofs.YtiglkpgoakibaaaW.PrintMore
set_option linter.unusedVariables false
attribute [local go_sem] Oper.semAt_some min2_int min_two
set_option linter.unusedSimpArgs false

set_option maxRecDepth 100000 in
set_option maxHeartbeats 4000000 in
theorem law_in {w : World} {A0 A1 Af : Option Addr} {c0 c1 cf : Nat} {ns : List ByteArray} {rs : List (List Int)} {f : List Int} (h0 : Kd.C Kd.string w A0 ns.length ns) (hc0 : ns.length ≤ c0) (h1 : Kd.C (Kd.slice 3 (Kd.int .i64)) w A1 rs.length rs) (hc1 : rs.length ≤ c1)
    (hf : Kd.C (Kd.int .i64) w Af f.length f) (hcf : f.length ≤ cf) (hn10 : ns.length ≤ 10) (hr10 : rs.length ≤ 10) (hf40 : f.length ≤ 40) (hr : ignitionref01_CheckModel.f 3000 ns rs = some 0) (hb : ignitionref01_Valid.f 403 f (ns.length : Int) = some true) (hg : Gm ns rs) (hv : Vd ns.length f) :
    Calls Try.prog 3 #[.agg #[.slice A0 ns.length c0, .slice A1 rs.length c1], .slice Af f.length cf] w fun e w' => e = .returned (.bool true) ∧ Below w.heap.size w w' := by
  obtain ⟨m, hm⟩ : ∃ m, ns.length = m := ⟨_, rfl⟩
  obtain ⟨q, hq⟩ : ∃ q, rs.length = q := ⟨_, rfl⟩
  obtain ⟨l, hl⟩ : ∃ l, f.length = l := ⟨_, rfl⟩
  obtain ⟨w1, hw1⟩ : ∃ w1, w.alloc (.cells #[.slice A0 m c0, .slice A1 q c1] 25) = w1 := ⟨_, rfl⟩
  have hB1 : Below w.heap.size w w1 := by rw [← hw1]; exact (Below.refl _ w).alloc (Nat.le_refl _) _
  have k0 : w1.heap[w.heap.size]? = some (.cells #[.slice A0 m c0, .slice A1 q c1] 25 (0, 0)) := by rw [← hw1]; exact allocNew _ _ _ rfl
  have p0 : w1.cell? ⟨w.heap.size, 0, none⟩ = some (.slice A0 m c0) := (blk_cell' k0 0).trans rfl
  have p1 : w1.cell? ⟨w.heap.size, 1, none⟩ = some (.slice A1 q c1) := (blk_cell' k0 1).trans rfl
  have HC : Hid (Calls Try.prog 4 #[.agg #[.slice A0 m c0, .slice A1 q c1]] w1 fun e w' => e = .returned (.int .i64 0) ∧ Below w1.heap.size w1 w') := by
    have h := ignitionref01_CheckModel.calls 3000 A0 c0 ns A1 c1 rs 0 w1 (Kd.C_below h0 hB1) hc0 (Kd.C_below h1 hB1) hc1 hr
    rw [hm, hq] at h
    exact Lib.hid h
  have HV : Hid (∀ w2, Below w.heap.size w w2 → Calls Try.prog 5 #[.slice Af l cf, .int .i64 m] w2 fun e w' => e = .returned (.bool true) ∧ Drawn0 w2 w') := Lib.hid fun w2 h2 => by
    have h := ignitionref01_Valid.calls 403 Af cf f ns.length true w2 (Kd.C_below hf h2) hcf hb
    rw [hm, hl] at h
    exact h
  have HB1 := Lib.hid hB1
  have HCT : Hid (∀ W, Calls Try.prog 6 #[] W fun e w' => e = .returned (.bool true) ∧ Below W.heap.size W w') := Lib.hid counts_any
  have H0 := Lib.hid h0
  have H1 := Lib.hid h1
  have HF := Lib.hid hf
  have HG := Lib.hid hg
  have HVD := Lib.hid hv
  have HN := Lib.hid hm
  have HQ := Lib.hid hq
  have HL := Lib.hid hl
  have K0 := Lib.hid k0
  rw [hm] at hn10
  rw [hq] at hr10
  rw [hl] at hf40
  rw [hm, hq, hl]
  have d1 : decide ((10 : Int) < (m : Int)) = false := decide_eq_false (by omega)
  have d2 : decide ((10 : Int) < (q : Int)) = false := decide_eq_false (by omega)
  have d3 : decide ((40 : Int) < (l : Int)) = false := decide_eq_false (by omega)
  clear h0 h1 hf hc0 hc1 hcf hr hb hg hv k0 hB1 hm hq hl
  go_enter Try.func3, Try.ntmps3
  go_wp2_with fail
  refine HC.out.mono ?_
  rintro e w2 ⟨rfl, h2⟩
  have HB2 := Lib.hid (HB1.out.trans (h2.mono HB1.out.size))
  have K2 := Lib.hid ((h2.block _ (blk_lt' K0.out)).trans K0.out)
  have p0 : w2.cell? ⟨w.heap.size, 0, none⟩ = some (.slice A0 m c0) := (blk_cell' K2.out 0).trans rfl
  have p1 : w2.cell? ⟨w.heap.size, 1, none⟩ = some (.slice A1 q c1) := (blk_cell' K2.out 1).trans rfl
  have HV2 := Lib.hid (HV.out w2 HB2.out)
  clear h2
  go_wp2_with fail
  refine HV2.out.mono ?_
  rintro e w3 ⟨rfl, h3⟩
  have HB3 := Lib.hid (HB2.out.trans (h3.below.mono HB2.out.size))
  have K3 := Lib.hid ((h3.below.block _ (blk_lt' K2.out)).trans K2.out)
  have p0 : w3.cell? ⟨w.heap.size, 0, none⟩ = some (.slice A0 m c0) := (blk_cell' K3.out 0).trans rfl
  have p1 : w3.cell? ⟨w.heap.size, 1, none⟩ = some (.slice A1 q c1) := (blk_cell' K3.out 1).trans rfl
  clear h3 d1 d2 d3 HC HV HV2 K0 K2 HB1 HB2
  obtain ⟨w4, hw4⟩ : ∃ w4, w3.alloc (.cells #[] 9) = w4 := ⟨_, rfl⟩
  have hB4 : Below w3.heap.size w3 w4 := by rw [← hw4]; exact (Below.refl _ w3).alloc (Nat.le_refl _) _
  have HB4 := Lib.hid (HB3.out.trans (hB4.mono HB3.out.size))
  have ho4 : w4.ownsRow w.heap.size 9 1 (.slice (some ⟨w3.heap.size, 0, none⟩) 0 0) 0 [] := by rw [← hw4]; exact World.ownsRow_lit (base := w.heap.size) (e := 9) (size := 1) w3 #[] 0 HB3.out.size (by decide) rfl
  have p0 : w4.cell? ⟨w.heap.size, 0, none⟩ = some (.slice A0 m c0) := pw_cell_below hB4 p0
  have p1 : w4.cell? ⟨w.heap.size, 1, none⟩ = some (.slice A1 q c1) := pw_cell_below hB4 p1
  have HO4 := Lib.hid ho4
  have hu25 := Try.underlying25
  clear ho4 hB4
  go_upto_region 4 with (at_builtin; refine print_append_row_of (w0 := w) Value.string ByteArray.empty w.heap.size rfl _ _ 22 9 (.string ByteArray.empty) 16 rfl Try.underlying22 info9 rfl (by decide) (fun _ => rfl) (.slice (some ⟨w3.heap.size, 0, none⟩) 0 0) [] ns A0 m c0 rfl rfl HO4.out (by have h := Kd.reads_of_C (d := ByteArray.empty) (Kd.C_below H0.out HB4.out); rw [HN.out] at h; exact h) HB4.out HB4.out.size (by simp; omega) ?_; intro v5 w5 ho5 hb5 hg5 hat5; obtain ⟨O0, oc0, rfl, hoc0, ho5⟩ := own_form m ns v5 HN.out ho5)
  obtain ⟨w6, hw6⟩ : ∃ w6, w5.alloc (.cells #[.slice O0 m oc0, .slice none 0 0] 25) = w6 := ⟨_, rfl⟩
  have hB6 : Below w5.heap.size w5 w6 := by rw [← hw6]; exact (Below.refl _ w5).alloc (Nat.le_refl _) _
  have k5 : w6.heap[w5.heap.size]? = some (.cells #[.slice O0 m oc0, .slice none 0 0] 25 (0, 0)) := by rw [← hw6]; exact allocNew _ _ _ rfl
  have HB6 := Lib.hid (hb5.trans (hB6.mono hb5.size))
  have hm4 : w4.heap[w.heap.size]? = some (.cells #[.slice A0 m c0, .slice A1 q c1] 25 (0, 0)) := by rw [← hw4]; exact allocOld K3.out _
  have hown5 : (Value.slice (some ⟨w3.heap.size, 0, none⟩) 0 0).ownBlock = some w3.heap.size := rfl
  have hlt3 : w.heap.size < w3.heap.size := blk_lt' K3.out
  have hm5 : w5.heap[w.heap.size]? = some (.cells #[.slice A0 m c0, .slice A1 q c1] 25 (0, 0)) := (hg5.block _ (blk_lt' hm4) (by rw [hown5]; intro e; have := Option.some.inj e; omega)).trans hm4
  have K6 : Hid (w6.heap[w.heap.size]? = some (.cells #[.slice A0 m c0, .slice A1 q c1] 25 (0, 0))) := Lib.hid ((hB6.block _ (blk_lt' hm5)).trans hm5)
  have hb0 : w.heap.size < w5.heap.size := blk_lt' hm5
  have HC6 : Hid (Kd.C Kd.string w6 O0 m ns) := Lib.hid (Kd.C_below ho5.1 hB6)
  have HO0 : Hid (∀ b, (Value.slice O0 m oc0).ownBlock = some b → b < w5.heap.size) := Lib.hid fun b hb => (ho5.2 b hb).2
  have hz6 : w5.heap.size < w6.heap.size := blk_lt' k5
  have HK5 := Lib.hid k5
  rw [hw6]
  generalize w5.heap.size = b5 at *
  clear hw6 hB6 k5 hb5 hm4 hm5 hown5 hg5 hat5 ho5 hlt3 hw4 hw1 HB4 HO4 K3 HB3
  have HZ6 := Lib.hid hz6
  have p0 : w6.cell? ⟨w.heap.size, 0, none⟩ = some (.slice A0 m c0) := (blk_cell' K6.out 0).trans rfl
  have p1 : w6.cell? ⟨w.heap.size, 1, none⟩ = some (.slice A1 q c1) := (blk_cell' K6.out 1).trans rfl
  clear p0 p1 hz6
  go_wp2_with fail
  go_loopw [6] (fun i wr => ∃ (k : Nat) (vr : Value), k ≤ q ∧ i = .int .i64 k ∧ Hid (Below w.heap.size w wr) ∧ Hid (∀ b, b < w6.heap.size → b ≠ b5 → wr.heap[b]? = w6.heap[b]?) ∧ Hid (w6.heap.size ≤ wr.heap.size) ∧ Hid (wr.heap[b5]? = some (.cells #[.slice O0 m oc0, vr] 25 (0, 0))) ∧ Hid (Kd.R (Kd.slice 3 (Kd.int .i64)) 27 wr w6.heap.size (fun b => w6.heap.size ≤ b) vr (rs.take k))) (fun i _ => q - (intOf i).toNat)
  case atStart => exact ⟨0, .slice none 0 0, Nat.zero_le _, rfl, HB6.out, fun _ _ _ => rfl, Nat.le_refl _, HK5.out, Kd.R_nil _ _ _ _ _⟩
  case round =>
    obtain ⟨k, vr, hk, rfl, HBwa, HKP, HZwa, HK5a, HR7⟩ := hrel
    obtain ⟨wa, rfl⟩ : ∃ wa : World, wa = wr := ⟨_, rfl⟩
    have K7 := Lib.hid ((HKP.out _ (blk_lt' K6.out) (by omega)).trans K6.out)
    have s0 : wa.cell? ⟨w.heap.size, 0, none⟩ = some (.slice A0 m c0) := (blk_cell' K7.out 0).trans rfl
    have s1 : wa.cell? ⟨w.heap.size, 1, none⟩ = some (.slice A1 q c1) := (blk_cell' K7.out 1).trans rfl
    have s5 : wa.cell? ⟨b5, 1, none⟩ = some vr := (blk_cell' HK5a.out 1).trans rfl
    by_cases hlt : k < q
    · as_aux_lemma =>
      obtain ⟨x, hx⟩ : ∃ x, rs[k]? = some x := ⟨_, List.getElem?_eq_getElem (by rw [HQ.out]; exact hlt)⟩
      obtain ⟨g1, off1, Ak, ck, rfl, sk, hck, hCx⟩ := C_cellF (Kd.C_below H1.out HBwa.out) hx
      have hx100 := (HG.out.rule x (List.mem_of_getElem? hx)).len
      have HCx := Lib.hid hCx
      have HX := Lib.hid hx
      have HXL := Lib.hid hx100
      have hzwa := HZwa.out
      have hRlt : ∀ b, vr.ownBlock = some b → b < wa.heap.size := Kd.R_lt HR7.out
      have HRlt := Lib.hid hRlt
      have hlt' : (k : Int) < (q : Int) := by omega
      obtain ⟨xl, hxl⟩ : ∃ xl, x.length = xl := ⟨_, rfl⟩
      rw [hxl] at sk
      have HXX := Lib.hid hxl
      clear hCx hx hx100 hRlt hck hxl
      go_upto_region 7 with fail
      refine start_ (n := 13) (S := fun w' => w'.cell? ⟨b5, 1, none⟩ = some vr ∧ w'.cell? ⟨w.heap.size, 1, none⟩ = some (.slice (some ⟨g1, off1, none⟩) q c1) ∧ w'.cell? ⟨g1, off1 + k, none⟩ = some (.slice Ak xl ck)) (ds := [10, 12]) #[false, false, false, false, false, false, false, false, false, false, false, false, false] (by kernel_rfl) rfl rfl ⟨s5, s1, sk⟩ (fun hHeld => ?_)
      refine pure_ (i := 0) (N := some 80) (v := ?_) (a' := ?_) #[true, false, false, false, false, false, false, false, false, false, false, false, false] rfl rfl (by kernel_rfl) (fun _ _ _ h => h) (Or.inl ⟨by rfl, ?_⟩) ?_ ?_
      rotate_left
      · intro w'
        go_simp
        with_reducible rfl
      rotate_left
      · simp only [Act.put, List.setIfInBounds_toArray, List.set_cons_zero, List.set_cons_succ, i64_w, i32_w]
        rfl
      refine pure_ (i := 3) (N := some 83) (v := ?_) (a' := ?_) #[true, false, false, true, false, false, false, false, false, false, false, false, false] rfl rfl (by kernel_rfl) (fun _ _ _ h => h) (Or.inl ⟨by rfl, ?_⟩) ?_ ?_
      rotate_left
      · intro w'
        go_simp
        with_reducible rfl
      rotate_left
      · simp only [Act.put, List.setIfInBounds_toArray, List.set_cons_zero, List.set_cons_succ, i64_w, i32_w]
        rfl
      refine pure_ (i := 5) (N := some 85) (v := ?_) (a' := ?_) #[true, false, false, true, false, true, false, false, false, false, false, false, false] rfl rfl (by kernel_rfl) (fun _ _ _ h => h) (Or.inl ⟨by rfl, ?_⟩) ?_ ?_
      rotate_left
      · intro w'
        go_simp
        with_reducible rfl
      rotate_left
      · simp only [Act.put, List.setIfInBounds_toArray, List.set_cons_zero, List.set_cons_succ, i64_w, i32_w]
        rfl
      refine take_ (i := 1) (N := some 81) (v := ?_) (a' := ?_) #[true, true, false, true, false, true, false, false, false, false, false, false, false] rfl rfl (by kernel_rfl) (fun _ _ _ h => h) (Or.inl ⟨by rfl, ?_⟩) hHeld ?_ ?_
      rotate_left
      · rintro w' ⟨s0, s1, s2⟩
        go_simp
        with_reducible rfl
      rotate_left
      · simp only [Act.put, List.setIfInBounds_toArray, List.set_cons_zero, List.set_cons_succ, i64_w, i32_w]
        rfl
      refine take_ (i := 4) (N := some 84) (v := ?_) (a' := ?_) #[true, true, false, true, true, true, false, false, false, false, false, false, false] rfl rfl (by kernel_rfl) (fun _ _ _ h => h) (Or.inl ⟨by rfl, ?_⟩) hHeld ?_ ?_
      rotate_left
      · rintro w' ⟨s0, s1, s2⟩
        go_simp
        with_reducible rfl
      rotate_left
      · simp only [Act.put, List.setIfInBounds_toArray, List.set_cons_zero, List.set_cons_succ, i64_w, i32_w]
        rfl
      refine pure_ (i := 6) (N := some 86) (v := ?_) (a' := ?_) #[true, true, false, true, true, true, true, false, false, false, false, false, false] rfl rfl (by kernel_rfl) (fun _ _ _ h => h) (Or.inl ⟨by rfl, ?_⟩) ?_ ?_
      rotate_left
      · intro w'
        go_simp
        with_reducible rfl
      rotate_left
      · simp only [Act.put, List.setIfInBounds_toArray, List.set_cons_zero, List.set_cons_succ, i64_w, i32_w]
        rfl
      refine take_ (i := 7) (N := some 87) (v := ?_) (a' := ?_) #[true, true, false, true, true, true, true, true, false, false, false, false, false] rfl rfl (by kernel_rfl) (fun _ _ _ h => h) (Or.inl ⟨by rfl, ?_⟩) hHeld ?_ ?_
      rotate_left
      · rintro w' ⟨s0, s1, s2⟩
        go_simp
        with_reducible rfl
      rotate_left
      · simp only [Act.put, List.setIfInBounds_toArray, List.set_cons_zero, List.set_cons_succ, i64_w, i32_w]
        rfl
      refine one_ (i := 2) (N := some 82) #[true, true, true, true, true, true, true, true, false, false, false, false, false] rfl rfl (by kernel_rfl) (by decide) (fun K hK => ?_)
      refine value_ (w1 := ?_) (v := ?_) (by rfl) rfl ?_ ?_
      rotate_left 2
      · go_simp
        constructor
        · rfl
        · rfl
      obtain ⟨X2, hX2⟩ : ∃ X, (wa.alloc (.cells #[] 3)).drew = X := ⟨_, rfl⟩
      rw [hX2]
      have hb2 : Below wa.heap.size wa X2 := by rw [← hX2]; exact ((Below.refl _ wa).alloc (Nat.le_refl _) _).drew
      have ho2 : Kd.R (Kd.int .i64) 3 X2 wa.heap.size (fun k => wa.heap.size ≤ k) (.slice (some ⟨wa.heap.size, 0, none⟩) 0 0) [] := by rw [← hX2]; exact Kd.R_of_own ((World.ownsRow_lit (base := wa.heap.size) (e := 3) (size := 1) wa #[] 0 (Nat.le_refl _) (by decide) rfl).drew) (fun k hk => Nat.le_of_eq (Option.some.inj hk))
      refine hK.out _ _ ⟨pw_cell_below hb2 s5, pw_cell_below hb2 s1, pw_cell_below hb2 sk⟩ (fun hHeld => ?_)
      clear hK K
      refine norm_ (a' := ?_) ?_ ?_
      rotate_left
      · show Act.put _ (some 82) _ = _
        simp only [Act.put, List.setIfInBounds_toArray, List.set_cons_zero, List.set_cons_succ, i64_w, i32_w]
        rfl
      refine one_ (i := 8) (N := some 88) #[true, true, true, true, true, true, true, true, true, false, false, false, false] rfl rfl (by kernel_rfl) (by decide) (fun K hK => ?_)
      refine Kd.R_append_rows_step (Rr := (Kd.int .i64).K X2) (w0 := wa) (Kd.int .i64) wa.heap.size (by rfl) _ _ 27 3 (.int .i64 0) 8 rfl Try.underlying27 info3 rfl (by decide) (by decide) (.slice (some ⟨wa.heap.size, 0, none⟩) 0 0) [] x Ak xl ck (fun k => wa.heap.size ≤ k) (fun _ => False) rfl rfl ho2 (by have h := Kd.C_below HCx.out hb2; rw [HXX.out] at h; exact h) (fun _ _ h => h) (fun _ h => h.elim) (fun k hk => Nat.le_trans hb2.size hk) hb2 hb2.size (by have := HXL.out; have := HXX.out; simp; omega) ?_
      intro v8 X8 ho8 hb8 hg8 hat8
      obtain ⟨A8, c8, rfl⟩ := Kd.R_slice ho8
      refine hK.out _ _ ⟨pw_cell_below hb8 s5, pw_cell_below hb8 s1, pw_cell_below hb8 sk⟩ (fun hHeld => ?_)
      clear hK K
      refine norm_ (a' := ?_) ?_ ?_
      rotate_left
      · show Act.put _ (some 88) _ = _
        simp only [Act.put, List.setIfInBounds_toArray, List.set_cons_zero, List.set_cons_succ, i64_w, i32_w]
        rfl
      refine one_ (i := 9) (N := some 89) #[true, true, true, true, true, true, true, true, true, true, false, false, false] rfl rfl (by kernel_rfl) (by decide) (fun K hK => ?_)
      refine value_ (w1 := ?_) (v := ?_) (by rfl) rfl ?_ ?_
      rotate_left 2
      · go_simp
        constructor
        · rfl
        · rfl
      refine hK.out _ _ ⟨cell_alloc (pw_cell_below hb8 s5) _, cell_alloc (pw_cell_below hb8 s1) _, cell_alloc (pw_cell_below hb8 sk) _⟩ (fun hHeld => ?_)
      clear hK K
      refine norm_ (a' := ?_) ?_ ?_
      rotate_left
      · show Act.put _ (some 89) _ = _
        simp only [Act.put, List.setIfInBounds_toArray, List.set_cons_zero, List.set_cons_succ, i64_w, i32_w]
        rfl
      refine last_ (i := 10) (N := some 90) #[true, true, true, true, true, true, true, true, true, true, true, false, false] rfl rfl (by kernel_rfl) (by decide) (fun K hK => ?_)
      refine Kd.R_append_step (w0 := X8) (Kd.slice 3 (Kd.int .i64)) w6.heap.size (by rfl) _ _ 23 27 (.slice none 0 0) 24 rfl Try.underlying23 info27 rfl (by decide) (by decide) vr (rs.take k) x [_] (fun b => w6.heap.size ≤ b) (fun b => wa.heap.size ≤ b) rfl rfl ⟨_, rfl, Kd.R_lower ho8 hzwa⟩ (fun b hb => ⟨Nat.le_trans hzwa hb, fun e => absurd (HRlt.out b e.symm) (Nat.not_lt.2 hb)⟩) (fun b hb => Nat.le_trans hzwa (Nat.le_trans hb8.size hb)) (Kd.R_below HR7.out hb8) (Below.refl _ _) (Nat.le_trans hzwa hb8.size) (by simp; omega) ?_
      intro v10 X10 ho10 hb10 hg10 hat10
      obtain ⟨A10, c10, rfl⟩ := Kd.R_slice ho10
      have he10 : (rs.take k ++ [x]).length = k + 1 := by have := HQ.out; simp; omega
      rw [he10] at ho10 hat10 ⊢
      have hn5 : some b5 ≠ vr.ownBlock := fun e => by have := Kd.R_base HR7.out b5 e.symm; have := HZ6.out; omega
      have hk8 : X8.heap[b5]? = some (.cells #[.slice O0 m oc0, vr] 25 (0, 0)) := (hb8.block _ (blk_lt' HK5a.out)).trans HK5a.out
      have hk10 : X10.heap[b5]? = some (.cells #[.slice O0 m oc0, vr] 25 (0, 0)) := (hg10.block _ (blk_lt' hk8) hn5).trans hk8
      have s10 : X10.cell? ⟨b5, 1, none⟩ = some vr := (blk_cell' hk10 1).trans rfl
      have s10f : X10.frozen? ⟨b5, 1, none⟩ = false := blk_frozen' hk10 1
      refine hK.out _ _ ?_
      clear hK K
      refine norm_ (a' := ?_) ?_ ?_
      rotate_left
      · show Act.put _ (some 90) _ = _
        simp only [Act.put, List.setIfInBounds_toArray, List.set_cons_zero, List.set_cons_succ, i64_w, i32_w]
        rfl
      refine pure_ (i := 11) (N := some 91) (v := ?_) (a' := ?_) #[true, true, true, true, true, true, true, true, true, true, true, true, false] rfl rfl (by kernel_rfl) (fun _ _ _ h => h) (Or.inl ⟨by rfl, ?_⟩) ?_ ?_
      rotate_left
      · intro w'
        go_simp
        with_reducible rfl
      rotate_left
      · simp only [Act.put, List.setIfInBounds_toArray, List.set_cons_zero, List.set_cons_succ, i64_w, i32_w]
        rfl
      refine last_ (i := 12) (N := none) #[true, true, true, true, true, true, true, true, true, true, true, true, true] rfl rfl (by kernel_rfl) (by decide) (fun K hK => ?_)
      refine skip_ (w1 := ?_) (by rfl) rfl ?_ ?_
      rotate_left
      · go_simp
        rfl
      refine hK.out _ _ ?_
      clear hK K
      refine done_ (by kernel_rfl) ?_
      obtain ⟨X12, hX12⟩ : ∃ X, X10.setCell ⟨b5, 1, none⟩ (.slice A10 (k + 1) c10) = X := ⟨_, rfl⟩
      have hg12 : X10.grownBy X12 (some b5) := by rw [← hX12]; exact grown_set _ _ _
      have hk12 : X12.heap[b5]? = some (.cells #[.slice O0 m oc0, .slice A10 (k + 1) c10] 25 (0, 0)) := by rw [← hX12]; exact heap_setCell_same _ _ 1 _ _ _ hk10
      have hR12 : Kd.R (Kd.slice 3 (Kd.int .i64)) 27 X12 w6.heap.size (fun b => w6.heap.size ≤ b) (.slice A10 (k + 1) c10) (rs.take (k + 1)) := by
        rw [take_getF HX.out, ← hX12]
        exact Kd.R_set ho10 hk10 (by intro q hq; simp [Kd.slice, Kd.int, Kd.scalar] at hq; omega) 1 _
      have hrb : ∀ b, vr.ownBlock = some b → w6.heap.size ≤ b := fun b hb => Kd.R_base HR7.out b hb
      have h6lt := HZ6.out
      have hkp : ∀ b, b < w6.heap.size → b ≠ b5 → X12.heap[b]? = w6.heap[b]? := fun b hb hne => by
        have z8 := hb8.size
        have z10 := hg10.size
        refine (hg12.block b (by omega) (fun e => hne (Option.some.inj e))).trans ((hg10.block b (by omega) (fun e => ?_)).trans ((hb8.block b (by omega)).trans (HKP.out b hb hne)))
        have := hrb b e.symm
        omega
      have hbw : Below w.heap.size w X12 := by
        have hz0 := HBwa.out.size
        have hz8 := hb8.size
        have hz10 := hg10.size
        have h1 := HBwa.out.trans (hb8.mono hz0)
        have h2 : Below w.heap.size X8 X10 := ⟨hg10.os, hg10.tape, hg10.output, hg10.size, fun b hb => hg10.block b (by omega) (fun e => by have := hrb b e.symm; omega)⟩
        have h3 : Below w.heap.size X10 X12 := ⟨hg12.os, hg12.tape, hg12.output, hg12.size, fun b hb => hg12.block b (by omega) (fun e => by have := Option.some.inj e; omega)⟩
        exact h1.trans (h2.trans h3)
      have hzz : w6.heap.size ≤ X12.heap.size := Nat.le_trans hzwa (Nat.le_trans hb8.size (Nat.le_trans hg10.size hg12.size))
      have H12 := Lib.hid hk12
      have HR12 := Lib.hid hR12
      have HKP12 := Lib.hid hkp
      have HB12 := Lib.hid hbw
      have HZ12 := Lib.hid hzz
      clear hg12 hk12 hR12 hrb hkp hbw hzz ho10 hg10 hat10 ho8 hb8 hg8 hat8 ho2 hb2 hX2 hk10 hk8 s10 s10f hn5 h6lt sk s0 s1 s5
      go_wp2_with fail
      refine ⟨⟨k + 1, _, by omega, by simp, HB12.out, HKP12.out, HZ12.out, H12.out, HR12.out⟩, by simp [intOf]; omega⟩
    · as_aux_lemma =>
      obtain rfl : q = k := by omega
      have htk : rs.take q = rs := List.take_of_length_le (by rw [HQ.out]; exact Nat.le_refl _)
      have hRr := HR7.out
      rw [htk] at hRr
      obtain ⟨O1, oc1, rfl, hoc1, hCr⟩ := Kd.R_reads hRr
      obtain ⟨gO, offO, hRF⟩ := C_RdFs hCr
      have hMo : Mo wa wa.heap.size O0 oc0 O1 gO offO oc1 ns rs := ⟨HG.out, by rw [HN.out]; exact hn10, by rw [HQ.out]; exact hr10, by rw [HN.out]; exact C_blk (m := m) (c := oc0) HC6.out (fun b hb => HKP.out b (by have := HO0.out b hb; have := HZ6.out; omega) (by have := HO0.out b hb; omega)), by rw [HN.out]; exact hoc0, hRF, Nat.le_refl _⟩
      have HMa := Lib.hid hMo
      have HCR := Lib.hid hCr
      have hlk : b5 < wa.heap.size := blk_lt' HK5a.out
      have HOC := Lib.hid hoc1
      rw [HQ.out] at HK5a
      clear htk hRr hRF hMo hCr hoc1 s5
      obtain ⟨w7, hw7⟩ : ∃ w7, wa.alloc (.cells #[] 3) = w7 := ⟨_, rfl⟩
      have hB7 : Below wa.heap.size wa w7 := by rw [← hw7]; exact (Below.refl _ wa).alloc (Nat.le_refl _) _
      have ho7 : Kd.R (Kd.int .i64) 3 w7 wa.heap.size (fun _ => True) (.slice (some ⟨wa.heap.size, 0, none⟩) 0 0) [] := by rw [← hw7]; exact Kd.R_of_own (World.ownsRow_lit (base := wa.heap.size) (e := 3) (size := 1) wa #[] 0 (Nat.le_refl _) (by decide) rfl) (fun _ _ => trivial)
      have HO7 := Lib.hid ho7
      have HB7 := Lib.hid hB7
      clear ho7 hB7 s0
      go_upto_region 9 with (at_builtin; refine Kd.R_append_rows (Rr := (Kd.int .i64).K w7) (w0 := wa) (Kd.int .i64) wa.heap.size rfl _ _ 27 3 (.int .i64 0) 8 rfl Try.underlying27 info3 rfl (by decide) (by decide) (.slice (some ⟨wa.heap.size, 0, none⟩) 0 0) [] f Af l cf (fun _ => True) (fun _ => False) rfl rfl HO7.out (by have h := Kd.C_below HF.out (HBwa.out.trans (HB7.out.mono HBwa.out.size)); rw [HL.out] at h; exact h) (fun _ _ h => h) (fun _ h => h.elim) (fun _ _ => trivial) HB7.out HB7.out.size (by simp; omega) ?_; intro v8 w8 ho8 hb8 hg8 hat8; obtain ⟨AF, cF, rfl, hcF, hCF⟩ := own_formF f v8 HL.out ho8)
      have hb8' : Below w.heap.size w w8 := HBwa.out.trans (hb8.mono HBwa.out.size)
      have H8 : Hid (L8 w8 m q l b5 O0 oc0 O1 oc1 AF ns rs f) := by
        rw [← HL.out] at hCF
        obtain ⟨gf, of, hr1, hr2⟩ := C_RdF hCF
        exact Lib.hid ⟨HN.out, HQ.out, HL.out, ⟨_, _, _, HMa.out.below hb8⟩, Kd.C_below HCR.out hb8, HOC.out, HVD.out, hf40, ⟨gf, of, hr1, hr2 HVD.out.pos⟩, (hb8.block _ hlk).trans HK5a.out⟩
      have HB8 := Lib.hid hb8'
      have K8 : Hid (w8.heap[w.heap.size]? = some (.cells #[.slice A0 m c0, .slice A1 q c1] 25 (0, 0))) := Lib.hid ((hb8.block _ (blk_lt' K7.out)).trans K7.out)
      obtain ⟨s, hs⟩ : ∃ s, (SF m rs f).length = s := ⟨_, rfl⟩
      obtain ⟨t, ht⟩ : ∃ t, ((SF m rs f).take 64).length = t := ⟨_, rfl⟩
      have hmin : (if (64 : Int) < (s : Int) then 64 else (s : Int)) = (t : Int) := by
        rw [List.length_take, hs] at ht
        split <;> omega
      have hmin2 : (if 64 < s then 64 else (s : Int)) = (t : Int) := by
        rw [List.length_take, hs] at ht
        split <;> omega
      obtain ⟨ps, hps⟩ : ∃ b, decide (0 < s) = b := ⟨_, rfl⟩
      have hps2 : decide ((0 : Int) < (s : Int)) = ps := by rw [← hps]; exact decide_eq_decide.2 (by omega)
      have HS := Lib.hid hs
      have HT := Lib.hid ht
      have HPS := Lib.hid hps
      clear hb8' hb8 hg8 hat8 ho8 hcF hCF HMa HCR HOC HO7 HB7 HKP HZwa HK5a HR7 K7 HBwa hs ht s1 hlk hb0 HB6 HC6 HO0 HK5 HZ6 K6 hu25
      have q0 := H8.out.q0
      have q1 := H8.out.q1
      have HJ := H8.out.cnt (cF := cF)
      rw [HS.out] at HJ
      have HJ9 := Lib.hid HJ
      clear HJ
      go_wp2_with fail
      refine HJ9.out.mono ?_
      rintro e w9 ⟨rfl, hb⟩
      have H9 := Lib.hid (H8.out.below hb)
      have HB9 := Lib.hid (HB8.out.trans (hb.mono HB8.out.size))
      have K9 := Lib.hid ((hb.block _ (blk_lt' K8.out)).trans K8.out)
      have q0 := H9.out.q0
      have q1 := H9.out.q1
      have HJ10 := Lib.hid (H9.out.dia (cF := cF))
      clear hb HJ9 H8 K8
      go_wp2_with fail
      refine HJ10.out.mono ?_
      rintro e w10 ⟨Ks, nn, idx, R, x, Ak, ck, kb, rfl, hck, hb, hRK, hDg⟩
      obtain ⟨w11, hw11⟩ : ∃ w11, w10.alloc (.cells #[.slice Ak R.length ck] 34) = w11 := ⟨_, rfl⟩
      have hb11 : Below w10.heap.size w10 w11 := by rw [← hw11]; exact (Below.refl _ w10).alloc (Nat.le_refl _) _
      have k10 : w11.heap[w10.heap.size]? = some (.cells #[.slice Ak R.length ck] 34 (0, 0)) := by rw [← hw11]; exact allocNew _ _ _ rfl
      obtain ⟨r, hr⟩ : ∃ r, R.length = r := ⟨_, rfl⟩
      rw [hr] at hw11 k10 ⊢
      have hb09 : Below w9.heap.size w9 w11 := hb.trans (hb11.mono hb.size)
      have H11 := Lib.hid (H9.out.below hb09)
      have HB11 := Lib.hid (HB9.out.trans (hb09.mono HB9.out.size))
      have K11 := Lib.hid ((hb09.block _ (blk_lt' K9.out)).trans K9.out)
      have hzb : w9.heap.size ≤ w10.heap.size := hb.size
      have KB11 := Lib.hid k10
      have HRK11 := Lib.hid (hRK.below hb11)
      have HDG := Lib.hid hDg
      have HR := Lib.hid hr
      have HCK := Lib.hid hck
      have q0 := H11.out.q0
      have q1 := H11.out.q1
      have HJ11 := H11.out.lis (cF := cF)
      rw [HT.out] at HJ11
      have HJ11' := Lib.hid HJ11
      clear hb hb11 k10 hb09 hRK hDg hr hck HJ11 HJ10 H9 K9
      go_wp2_with fail
      refine HJ11'.out.mono ?_
      rintro e w12 ⟨Aa, ca, rfl, hb, hLB⟩
      have H12 := Lib.hid (H11.out.below hb)
      have HB12 := Lib.hid (HB11.out.trans (hb.mono HB11.out.size))
      have K12 := Lib.hid ((hb.block _ (blk_lt' K11.out)).trans K11.out)
      have KB12 := Lib.hid ((hb.block _ (blk_lt' KB11.out)).trans KB11.out)
      have HRK12 := Lib.hid (HRK11.out.below hb)
      have HLB := Lib.hid hLB
      have q0 := H12.out.q0
      have q1 := H12.out.q1
      have HJ12 : Hid (Calls Try.prog 10 #[.agg #[.slice O0 m oc0, .slice O1 q oc1], .slice (some ⟨w12.heap.size, 0, none⟩) 1 1] (w12.alloc (.cells #[.slice AF l cF] 27)) fun e w' => ∃ (A : Option Addr) (lv c : Nat), e = .returned (.tuple #[.slice A lv c, .bool ps, .int .i64 0]) ∧ Below w12.heap.size w12 w' ∧
          (0 < (SF m rs f).length → ∃ (x : List Bool) (g : Nat), (SF m rs f).head? = some x ∧ x.length = m ∧ lv = m ∧ c = m ∧ A = some ⟨g, 0, none⟩ ∧ w12.heap.size ≤ g ∧ w'.heap[g]? = some (.cells (fbs x 0) 4 (0, 0)))) := by
        obtain ⟨gf, of, r1, r2⟩ := H12.out.rd
        have h := H12.out.mee (c' := cF) (by rw [← HN.out]; exact HVD.out) r1 r2 HL.out
        rw [HS.out, HPS.out] at h
        rw [HS.out]
        exact Lib.hid h
      clear hb hLB HJ11' H11 K11 KB11 HRK11
      go_wp2_with fail
      refine HJ12.out.mono ?_
      rintro e w13 ⟨Av, lw, cv, rfl, hb, hV⟩
      have H13 := Lib.hid (H12.out.below hb)
      have HB13 := Lib.hid (HB12.out.trans (hb.mono HB12.out.size))
      have K13 := Lib.hid ((hb.block _ (blk_lt' K12.out)).trans K12.out)
      have KB13 := Lib.hid ((hb.block _ (blk_lt' KB12.out)).trans KB12.out)
      have HRK13 := Lib.hid (HRK12.out.below hb)
      have HV13 := Lib.hid hV
      obtain ⟨ga, hRL⟩ := RL_own HLB.out (fun x hx => by have := (SF_len x (List.mem_of_mem_take hx)).1; omega)
      have HRL13 := Lib.hid (hRL.below hb)
      have p0 : w13.cell? ⟨w.heap.size, 0, none⟩ = some (.slice A0 m c0) := (blk_cell' K13.out 0).trans rfl
      have pk : w13.cell? ⟨w10.heap.size, 0, none⟩ = some (.slice Ak r ck) := (blk_cell' KB13.out 0).trans rfl
      clear hV HJ12 K12 KB12 HRK12 HLB hRL
      go_upto_region 15 with fail
      as_aux_lemma =>
      have hr2 : r ≤ 2000 := by rw [← HR.out]; exact HDG.out.len
      have hmk := mki r w13 hr2
      obtain ⟨wA, hwA⟩ : ∃ wA, w13.alloc (.cells (wcs [] r) 3) = wA := ⟨_, rfl⟩
      obtain ⟨wB, hwB⟩ : ∃ wB, wA.alloc (.cells #[.slice (some ⟨w13.heap.size, 0, none⟩) r r] 26) = wB := ⟨_, rfl⟩
      obtain ⟨wC, hwC⟩ : ∃ wC, wB.alloc (.cells #[.int .i64 (m : Int)] 3) = wC := ⟨_, rfl⟩
      have bA : Below w13.heap.size w13 wA := by rw [← hwA]; exact (Below.refl _ w13).alloc (Nat.le_refl _) _
      have bB : Below wA.heap.size wA wB := by rw [← hwB]; exact (Below.refl _ wA).alloc (Nat.le_refl _) _
      have bC : Below wB.heap.size wB wC := by rw [← hwC]; exact (Below.refl _ wB).alloc (Nat.le_refl _) _
      have kA : wA.heap[w13.heap.size]? = some (.cells (wcs [] r) 3 (0, 0)) := by rw [← hwA]; exact allocNew _ _ _ rfl
      have kB : wB.heap[wA.heap.size]? = some (.cells #[.slice (some ⟨w13.heap.size, 0, none⟩) r r] 26 (0, 0)) := by rw [← hwB]; exact allocNew _ _ _ rfl
      have kC : wC.heap[wB.heap.size]? = some (.cells #[.int .i64 (m : Int)] 3 (0, 0)) := by rw [← hwC]; exact allocNew _ _ _ rfl
      have l1 : w13.heap.size < wA.heap.size := blk_lt' kA
      have l2 : wA.heap.size < wB.heap.size := blk_lt' kB
      have l3 : wB.heap.size < wC.heap.size := blk_lt' kC
      have HKA : Hid (wC.heap[w13.heap.size]? = some (.cells (wcs [] r) 3 (0, 0))) := Lib.hid ((bC.block _ (by omega)).trans ((bB.block _ l1).trans kA))
      have HKB : Hid (wC.heap[wA.heap.size]? = some (.cells #[.slice (some ⟨w13.heap.size, 0, none⟩) r r] 26 (0, 0))) := Lib.hid ((bC.block _ l2).trans kB)
      have HKC := Lib.hid kC
      have HBC : Hid (Below w13.heap.size w13 wC) := Lib.hid (bA.trans ((bB.mono (by omega)).trans (bC.mono (by omega))))
      have hbk : w10.heap.size < w13.heap.size := blk_lt' KB13.out
      have p0A := pw_cell_below bA p0
      have p0B := pw_cell_below bB p0A
      clear bA bB bC kA kB kC hb
      go_upto_region 18 with fail
      generalize w10.heap.size = bk at *
      obtain ⟨bW, hbW⟩ : ∃ b, w13.heap.size = b := ⟨_, rfl⟩
      obtain ⟨bX, hbX⟩ : ∃ b, wA.heap.size = b := ⟨_, rfl⟩
      obtain ⟨bY, hbY⟩ : ∃ b, wB.heap.size = b := ⟨_, rfl⟩
      have HBW := Lib.hid hbW
      rw [hbW, hbX] at HKB
      rw [hbW] at HKA
      rw [hbY] at HKC
      rw [hbW, hbX] at l1
      rw [hbX, hbY] at l2
      rw [hbY] at l3
      rw [hbW] at hbk
      simp only [hbW, hbX, hbY]
      clear hwA hwB hwC hmk hbX hbY hbW p0 p0A p0B pk hw11
      go_wp2_with fail
      go_loopw [21] (fun t wr => ∃ i : Nat, i ≤ r ∧ t = .int .i64 i ∧ Hid (Below w13.heap.size w13 wr) ∧ Hid (wr.heap[bW]? = some (.cells (wcs ((ways Ks idx).take i) (r - i)) 3 (0, 0))) ∧ Hid (wr.heap[bX]? = some (.cells #[.slice (some ⟨bW, 0, none⟩) r r] 26 (0, 0))) ∧ Hid (wr.heap[bY]? = some (.cells #[.int .i64 (m : Int)] 3 (0, 0)))) (fun t _ => r - (intOf t).toNat)
      case atStart => exact ⟨0, Nat.zero_le _, rfl, HBC.out, HKA.out, HKB.out, HKC.out⟩
      case round =>
        obtain ⟨i, hi, rfl, HBr, HKW, HKX, HKY⟩ := hrel
        obtain ⟨wa', rfl⟩ : ∃ wa' : World, wa' = wr := ⟨_, rfl⟩
        have hKB := (HBr.out.block _ (blk_lt' KB13.out)).trans KB13.out
        have sk : wa'.cell? ⟨bk, 0, none⟩ = some (.slice Ak r ck) := (blk_cell' hKB 0).trans rfl
        have SK := Lib.hid hKB
        clear hKB
        by_cases hlt : i < r
        · as_aux_lemma =>
          obtain ⟨kr, hkr⟩ : ∃ kr, R[i]? = some kr := ⟨_, List.getElem?_eq_getElem (by rw [HR.out]; exact hlt)⟩
          have hRKa := HRK13.out.below HBr.out
          obtain ⟨c0', c1', c2'⟩ := hRKa.hc i kr hkr
          obtain rfl := hRKa.hA (by rw [HR.out]; omega)
          obtain ⟨nI, ql, qh, e1, e2, e3, e4, e5, e6, e7, e8, e9, e10, e11, e12, e13, e14, e15, e16⟩ := knot_ways HDG.out.wf HDG.out.rk hkr
          obtain ⟨za, hza⟩ : ∃ z, wy Ks ql * 2 ^ (lv Ks ql - (kr.o + 1)) = z := ⟨_, rfl⟩
          obtain ⟨zb, hzb⟩ : ∃ z, wy Ks qh * 2 ^ (lv Ks qh - (kr.o + 1)) = z := ⟨_, rfl⟩
          have h40 : za + zb ≤ 1099511627776 := by rw [← hza, ← hzb, ← e12]; exact wy_40' HDG.out.wf (Nat.le_trans H13.out.m10 (by decide)) e2
          have hwi : (ways Ks idx).take (i + 1) = (ways Ks idx).take i ++ [za + zb] := by
            rw [List.take_add_one, ways_at e1, e12, hza, hzb]
            rfl
          have HZA := Lib.hid hza
          have HZB := Lib.hid hzb
          have H40 := Lib.hid h40
          have HWI := Lib.hid hwi
          have HEL := Lib.hid e4
          have HEH := Lib.hid e5
          have HO1 : Hid (kr.o < lv Ks ql ∧ lv Ks ql ≤ m ∧ kr.o < lv Ks qh ∧ lv Ks qh ≤ m ∧ ql < Ks.length ∧ qh < Ks.length) := ⟨e6, e7, e8, e9, e10, e11⟩
          have d1 : decide ((i : Int) ≤ kr.l) = false := decide_eq_false (by omega)
          have d2 : decide ((i : Int) ≤ kr.h) = false := decide_eq_false (by omega)
          have d3 : decide (kr.l < -2) = false := decide_eq_false (by omega)
          have d4 : decide (kr.h < -2) = false := decide_eq_false (by omega)
          have c0 := c0'
          have c1 := c1'
          have c2 := c2'
          have HKR := Lib.hid hkr
          have hlt' : (i : Int) < (r : Int) := by omega
          clear hRKa c0' c1' c2' e1 e2 e3 e4 e5 e6 e7 e8 e9 e10 e11 e12 e13 e14 e15 e16 hza hzb h40 hwi hkr
          go_upto_region 23 with fail
          refine start_ (n := 13) (S := fun w' => w'.cell? ⟨bk, 0, none⟩ = some (.slice (some ⟨kb, 0, none⟩) r ck) ∧ w'.cell? ⟨kb, i * 3 + 1, none⟩ = some (.int .i64 kr.l) ∧ w'.cell? ⟨kb, i * 3 + 2, none⟩ = some (.int .i64 kr.h)) (ds := []) #[false, false, false, false, false, false, false, false, false, false, false, false, false] (by kernel_rfl) rfl rfl ⟨sk, c1, c2⟩ (fun hHeld => ?_)
          refine pure_ (i := 1) (N := some 195) (v := ?_) (a' := ?_) #[false, true, false, false, false, false, false, false, false, false, false, false, false] rfl rfl (by kernel_rfl) (fun _ _ _ h => h) (Or.inl ⟨by rfl, ?_⟩) ?_ ?_
          rotate_left
          · intro w'
            go_simp
            with_reducible rfl
          rotate_left
          · simp only [Act.put, List.setIfInBounds_toArray, List.set_cons_zero, List.set_cons_succ, i64_w, i32_w]
            rfl
          refine pure_ (i := 6) (N := some 200) (v := ?_) (a' := ?_) #[false, true, false, false, false, false, true, false, false, false, false, false, false] rfl rfl (by kernel_rfl) (fun _ _ _ h => h) (Or.inl ⟨by rfl, ?_⟩) ?_ ?_
          rotate_left
          · intro w'
            go_simp
            with_reducible rfl
          rotate_left
          · simp only [Act.put, List.setIfInBounds_toArray, List.set_cons_zero, List.set_cons_succ, i64_w, i32_w]
            rfl
          refine pure_ (i := 12) (N := some 206) (v := ?_) (a' := ?_) #[false, true, false, false, false, false, true, false, false, false, false, false, true] rfl rfl (by kernel_rfl) (fun _ _ _ h => h) (Or.inl ⟨by rfl, ?_⟩) ?_ ?_
          rotate_left
          · intro w'
            go_simp
            with_reducible rfl
          rotate_left
          · simp only [Act.put, List.setIfInBounds_toArray, List.set_cons_zero, List.set_cons_succ, i64_w, i32_w]
            rfl
          refine take_ (i := 0) (N := some 194) (v := ?_) (a' := ?_) #[true, true, false, false, false, false, true, false, false, false, false, false, true] rfl rfl (by kernel_rfl) (fun _ _ _ h => h) (Or.inl ⟨by rfl, ?_⟩) hHeld ?_ ?_
          rotate_left
          · rintro w' ⟨s0, s1, s2⟩
            go_simp
            with_reducible rfl
          rotate_left
          · simp only [Act.put, List.setIfInBounds_toArray, List.set_cons_zero, List.set_cons_succ, i64_w, i32_w]
            rfl
          refine pure_ (i := 2) (N := some 196) (v := ?_) (a' := ?_) #[true, true, true, false, false, false, true, false, false, false, false, false, true] rfl rfl (by kernel_rfl) (fun _ _ _ h => h) (Or.inl ⟨by rfl, ?_⟩) ?_ ?_
          rotate_left
          · intro w'
            go_simp
            with_reducible rfl
          rotate_left
          · simp only [Act.put, List.setIfInBounds_toArray, List.set_cons_zero, List.set_cons_succ, i64_w, i32_w]
            rfl
          refine pure_ (i := 3) (N := some 197) (v := ?_) (a' := ?_) #[true, true, true, true, false, false, true, false, false, false, false, false, true] rfl rfl (by kernel_rfl) (fun _ _ _ h => h) (Or.inl ⟨by rfl, ?_⟩) ?_ ?_
          rotate_left
          · intro w'
            go_simp
            with_reducible rfl
          rotate_left
          · simp only [Act.put, List.setIfInBounds_toArray, List.set_cons_zero, List.set_cons_succ, i64_w, i32_w]
            rfl
          refine take_ (i := 4) (N := some 198) (v := ?_) (a' := ?_) #[true, true, true, true, true, false, true, false, false, false, false, false, true] rfl rfl (by kernel_rfl) (fun _ _ _ h => h) (Or.inl ⟨by rfl, ?_⟩) hHeld ?_ ?_
          rotate_left
          · rintro w' ⟨s0, s1, s2⟩
            go_simp
            with_reducible rfl
          rotate_left
          · simp only [Act.put, List.setIfInBounds_toArray, List.set_cons_zero, List.set_cons_succ, i64_w, i32_w]
            rfl
          refine take_ (i := 5) (N := some 199) (v := ?_) (a' := ?_) #[true, true, true, true, true, true, true, false, false, false, false, false, true] rfl rfl (by kernel_rfl) (fun _ _ _ h => h) (Or.inl ⟨by rfl, ?_⟩) hHeld ?_ ?_
          rotate_left
          · rintro w' ⟨s0, s1, s2⟩
            go_simp
            with_reducible rfl
          rotate_left
          · simp only [Act.put, List.setIfInBounds_toArray, List.set_cons_zero, List.set_cons_succ, i64_w, i32_w]
            rfl
          refine pure_ (i := 7) (N := some 201) (v := ?_) (a' := ?_) #[true, true, true, true, true, true, true, true, false, false, false, false, true] rfl rfl (by kernel_rfl) (fun _ _ _ h => h) (Or.inl ⟨by rfl, ?_⟩) ?_ ?_
          rotate_left
          · intro w'
            go_simp
            with_reducible rfl
          rotate_left
          · simp only [Act.put, List.setIfInBounds_toArray, List.set_cons_zero, List.set_cons_succ, i64_w, i32_w]
            rfl
          refine pure_ (i := 8) (N := some 202) (v := ?_) (a' := ?_) #[true, true, true, true, true, true, true, true, true, false, false, false, true] rfl rfl (by kernel_rfl) (fun _ _ _ h => h) (Or.inl ⟨by rfl, ?_⟩) ?_ ?_
          rotate_left
          · intro w'
            go_simp
            with_reducible rfl
          rotate_left
          · simp only [Act.put, List.setIfInBounds_toArray, List.set_cons_zero, List.set_cons_succ, i64_w, i32_w]
            rfl
          refine take_ (i := 9) (N := some 203) (v := ?_) (a' := ?_) #[true, true, true, true, true, true, true, true, true, true, false, false, true] rfl rfl (by kernel_rfl) (fun _ _ _ h => h) (Or.inl ⟨by rfl, ?_⟩) hHeld ?_ ?_
          rotate_left
          · rintro w' ⟨s0, s1, s2⟩
            go_simp
            with_reducible rfl
          rotate_left
          · simp only [Act.put, List.setIfInBounds_toArray, List.set_cons_zero, List.set_cons_succ, i64_w, i32_w]
            rfl
          refine one_ (i := 10) (N := some 204) #[true, true, true, true, true, true, true, true, true, true, true, false, true] rfl rfl (by kernel_rfl) (by decide) (fun K hK => ?_)
          refine value_ (w1 := ?_) (v := ?_) (by rfl) rfl ?_ ?_
          rotate_left 2
          · go_simp
            constructor
            · rfl
            · rfl
          refine hK.out _ _ ⟨cell_alloc sk _, cell_alloc c1 _, cell_alloc c2 _⟩ (fun hHeld => ?_)
          clear hK K
          refine norm_ (a' := ?_) ?_ ?_
          rotate_left
          · show Act.put _ (some 204) _ = _
            simp only [Act.put, List.setIfInBounds_toArray, List.set_cons_zero, List.set_cons_succ, i64_w, i32_w]
            rfl
          refine pure_ (i := 11) (N := some 205) (v := ?_) (a' := ?_) #[true, true, true, true, true, true, true, true, true, true, true, true, true] rfl rfl (by kernel_rfl) (fun _ _ _ h => h) (Or.inl ⟨by rfl, ?_⟩) ?_ ?_
          rotate_left
          · intro w'
            go_simp
            with_reducible rfl
          rotate_left
          · simp only [Act.put, List.setIfInBounds_toArray, List.set_cons_zero, List.set_cons_succ, i64_w, i32_w]
            rfl
          refine done_ (by kernel_rfl) ?_
          obtain ⟨wb, hwb⟩ : ∃ wb, (wa'.alloc (.cells #[.int .i64 kr.l, .int .i64 kr.h] 3)).drew = wb := ⟨_, rfl⟩
          have hBb : Below wa'.heap.size wa' wb := by rw [← hwb]; exact ((Below.refl _ wa').alloc (Nat.le_refl _) _).drew
          have kL : wb.heap[wa'.heap.size]? = some (.cells #[.int .i64 kr.l, .int .i64 kr.h] 3 (0, 0)) := by rw [← hwb]; exact allocNew wa' _ _ rfl
          obtain ⟨m', hm'⟩ : ∃ m', r - i = m' + 1 := ⟨r - i - 1, by omega⟩
          have hm2 : r - (i + 1) = m' := by omega
          have hWl : ((ways Ks idx).take i).length = i := by
            have h1 := HDG.out.rk.len
            have h2 := HR.out
            rw [List.length_take, ways, List.length_map]
            omega
          have HKW0 : Hid (wb.heap[bW]? = some (.cells (wcs ((ways Ks idx).take i ++ [pj za zb 0]) m') 3 (0, 0))) := by
            have h := (hBb.block _ (blk_lt' HKW.out)).trans HKW.out
            rw [hm', wcs_zero] at h
            exact Lib.hid h
          have HKX0 := Lib.hid ((hBb.block _ (blk_lt' HKX.out)).trans HKX.out)
          have HKY0 := Lib.hid ((hBb.block _ (blk_lt' HKY.out)).trans HKY.out)
          have HBb := Lib.hid (HBr.out.trans (hBb.mono HBr.out.size))
          have HKL := Lib.hid kL
          have hgl : bY < wa'.heap.size := blk_lt' HKY.out
          rw [hwb]
          generalize wa'.heap.size = gl at *
          have HWL := Lib.hid hWl
          have HM2 := Lib.hid hm2
          clear hwb hBb kL hm' hm2 hWl HKW HKX HKY c0 c1 c2 sk SK d1 d2 d3 d4 HBr
          as_aux_lemma =>
          go_wp2_with fail
          go_loopw [206] (fun t wr => ∃ j : Nat, j ≤ 2 ∧ t = .int .i64 j ∧ Hid (Below w13.heap.size w13 wr) ∧ Hid (wr.heap[bW]? = some (.cells (wcs ((ways Ks idx).take i ++ [pj za zb j]) m') 3 (0, 0))) ∧ Hid (wr.heap[bX]? = some (.cells #[.slice (some ⟨bW, 0, none⟩) r r] 26 (0, 0))) ∧ Hid (wr.heap[bY]? = some (.cells #[.int .i64 (m : Int)] 3 (0, 0))) ∧ Hid (wr.heap[gl]? = some (.cells #[.int .i64 kr.l, .int .i64 kr.h] 3 (0, 0)))) (fun t _ => 2 - (intOf t).toNat)
          case atStart => exact ⟨0, by omega, rfl, HBb.out, HKW0.out, HKX0.out, HKY0.out, HKL.out⟩
          case round =>
            obtain ⟨j, hj, rfl, HB1, HW1, HX1, HY1, HL1⟩ := hrel
            obtain ⟨we, rfl⟩ : ∃ we : World, we = wr := ⟨_, rfl⟩
            by_cases hj2 : j < 2
            · as_aux_lemma =>
              obtain ⟨y, qq, hy, hen, ho1, ho2, hq, hpj⟩ : ∃ (y : Int) (qq : Nat), (#[Value.int .i64 kr.l, Value.int .i64 kr.h] : Array Value)[j]? = some (.int .i64 y) ∧ En (idx.take i) y qq ∧ kr.o < Go.Proofs.Ytiglkpgoakibaaa.lv Ks qq ∧ Go.Proofs.Ytiglkpgoakibaaa.lv Ks qq ≤ m ∧ qq < Ks.length ∧ pj za zb (j + 1) = pj za zb j + wy Ks qq * 2 ^ (Go.Proofs.Ytiglkpgoakibaaa.lv Ks qq - (kr.o + 1)) := by
                obtain ⟨o1, o2, o3, o4, o5, o6⟩ := HO1.out
                rcases (show j = 0 ∨ j = 1 by omega) with rfl | rfl
                · exact ⟨kr.l, ql, rfl, HEL.out, o1, o2, o5, by rw [HZA.out]; simp [pj]⟩
                · exact ⟨kr.h, qh, rfl, HEH.out, o3, o4, o6, by rw [HZB.out]; simp [pj]⟩
              have h10 := H13.out.m10
              have hz40 := wy_40 HDG.out.wf (Nat.le_trans h10 (by decide)) hq (kr.o + 1)
              have hp40 : pj za zb (j + 1) ≤ 1099511627776 := by
                have := H40.out
                rcases (show j = 0 ∨ j = 1 by omega) with rfl | rfl <;> simp only [pj] <;> omega
              have hat : AtR m R (wl ((ways Ks idx).take i ++ [pj za zb j]) m') y (Go.Proofs.Ytiglkpgoakibaaa.lv Ks qq) (wy Ks qq) := atR_of HDG.out.wf HDG.out.rk (i := i) (fun j' n' hj' hn' => wl_pre _ _ _ _ _ (by rw [List.getElem?_take_of_lt hj']; exact ways_at hn')) hen
              obtain ⟨ov, hov⟩ : ∃ ov, Go.Proofs.Ytiglkpgoakibaaa.lv Ks qq = ov := ⟨_, rfl⟩
              obtain ⟨wv, hwv⟩ : ∃ wv, wy Ks qq = wv := ⟨_, rfl⟩
              rw [hov, hwv] at hat hz40 hpj
              rw [hov] at ho1 ho2
              obtain ⟨z, hz⟩ : ∃ z, wv * 2 ^ (ov - (kr.o + 1)) = z := ⟨_, rfl⟩
              obtain ⟨e1, he1⟩ : ∃ e, ov - kr.o = e := ⟨_, rfl⟩
              obtain ⟨e2, he2⟩ : ∃ e, ov - (kr.o + 1) = e := ⟨_, rfl⟩
              have hw1 : wrap64 ((ov : Int) - (kr.o : Int)) = (e1 : Int) := by rw [← he1]; exact wrap_d1 ho1 (by omega)
              have hw2 : wrap64 ((e1 : Int) - 1) = (e2 : Int) := by rw [← he1, ← he2]; exact wrap_d2 ho1 (by omega)
              have hcv : IntKind.u64.wrap (e2 : Int) = (e2 : Int) := wrap_u e2 (by omega)
              have hsh : Op.shift .shl .i64 (wv : Int) .u64 (e2 : Int) = pure (.int .i64 (z : Int)) := by
                rw [← hz, ← he2]
                exact shl_u wv (ov - (kr.o + 1)) (by omega) hz40
              rw [hz] at hpj
              obtain ⟨acc, hacc⟩ : ∃ acc, pj za zb j = acc := ⟨_, rfl⟩
              obtain ⟨acc2, hacc2⟩ : ∃ acc, pj za zb (j + 1) = acc := ⟨_, rfl⟩
              rw [hacc] at HW1 hpj hat
              rw [hacc2] at hpj hp40
              have hsm : wrap64 ((acc : Int) + (z : Int)) = (acc2 : Int) := by rw [hpj]; exact wrap_sum (by omega)
              have qj : we.cell? ⟨gl, j, none⟩ = some (.int .i64 y) := (blk_cell' HL1.out j).trans hy
              have hKB := (HB1.out.block _ (blk_lt' KB13.out)).trans KB13.out
              have sk : we.cell? ⟨bk, 0, none⟩ = some (.slice (some ⟨kb, 0, none⟩) r ck) := (blk_cell' hKB 0).trans rfl
              have hRKe := HRK13.out.below HB1.out
              have hrl : (wl ((ways Ks idx).take i ++ [acc]) m').length = r := by
                rw [wl_len, List.length_append, HWL.out]
                have := HM2.out
                simp
                omega
              have HAT : Hid (Calls Try.prog 11 #[.int .i64 y, .pointer (some ⟨bY, 0, none⟩), .pointer (some ⟨bk, 0, none⟩), .pointer (some ⟨bX, 0, none⟩)] we fun e w' => e = .returned (.tuple #[.int .i64 (ov : Nat), .int .i64 (wv : Nat)]) ∧ Below we.heap.size we w') := by
                have sX : we.cell? ⟨bX, 0, none⟩ = some (.slice (some ⟨bW, 0, none⟩) r r) := (blk_cell' HX1.out 0).trans rfl
                have sY : we.cell? ⟨bY, 0, none⟩ = some (.int .i64 (m : Int)) := (blk_cell' HY1.out 0).trans rfl
                rw [← hrl] at sX
                rw [← HR.out] at sk
                exact Lib.hid (at_any sY sk sX hRKe (RW_own HW1.out) hat)
              have HACC := Lib.hid hacc2
              have HHO1 := Lib.hid ho1
              have HHO2 := Lib.hid ho2
              clear hat hen hq hpj hov hwv hz he1 he2 hacc hacc2 hy hz40 hp40 h10 hrl hRKe hKB sk
              go_wp2_with fail
              refine HAT.out.mono ?_
              rintro e wf ⟨rfl, hb⟩
              have HB2 := Lib.hid (HB1.out.trans (hb.mono HB1.out.size))
              have HW2 := Lib.hid ((hb.block _ (blk_lt' HW1.out)).trans HW1.out)
              have HX2 := Lib.hid ((hb.block _ (blk_lt' HX1.out)).trans HX1.out)
              have HY2 := Lib.hid ((hb.block _ (blk_lt' HY1.out)).trans HY1.out)
              have HL2 := Lib.hid ((hb.block _ (blk_lt' HL1.out)).trans HL1.out)
              have hKB := (HB2.out.block _ (blk_lt' KB13.out)).trans KB13.out
              have sk : wf.cell? ⟨bk, 0, none⟩ = some (.slice (some ⟨kb, 0, none⟩) r ck) := (blk_cell' hKB 0).trans rfl
              have sX : wf.cell? ⟨bX, 0, none⟩ = some (.slice (some ⟨bW, 0, none⟩) r r) := (blk_cell' HX2.out 0).trans rfl
              have sY : wf.cell? ⟨bY, 0, none⟩ = some (.int .i64 (m : Int)) := (blk_cell' HY2.out 0).trans rfl
              have sW : wf.cell? ⟨bW, i, none⟩ = some (.int .i64 (acc : Nat)) := by
                have h := (RW_own HW2.out).hc _ acc (wl_at ((ways Ks idx).take i) acc m')
                rw [HWL.out] at h
                exact h
              have sWf : wf.frozen? ⟨bW, i, none⟩ = false := blk_frozen' HW2.out i
              obtain ⟨c0, c1, c2⟩ := (HRK13.out.below HB2.out).hc i kr HKR.out
              have g1 : decide ((ov : Int) ≤ (kr.o : Int)) = false := decide_eq_false (by omega)
              have g2 : decide (ov ≤ kr.o) = false := decide_eq_false (by omega)
              have g3 : decide ((m : Int) < (ov : Int)) = false := decide_eq_false (by omega)
              have g4 : decide (m < ov) = false := decide_eq_false (by omega)
              clear hb hKB ho1 ho2 HW1 HX1 HY1 HL1 HB1 qj HAT
              as_aux_lemma =>
              go_upto_region 29 with fail
              refine start_ (n := 18) (S := fun w' => w'.cell? ⟨bX, 0, none⟩ = some (.slice (some ⟨bW, 0, none⟩) r r) ∧ w'.cell? ⟨bW, i, none⟩ = some (.int .i64 (acc : Nat)) ∧ w'.cell? ⟨bk, 0, none⟩ = some (.slice (some ⟨kb, 0, none⟩) r ck) ∧ w'.cell? ⟨kb, i * 3, none⟩ = some (.int .i64 (kr.o : Nat))) (ds := [17]) #[false, false, false, false, false, false, false, false, false, false, false, false, false, false, false, false, false, false] (by kernel_rfl) rfl rfl ⟨sX, sW, sk, c0⟩ (fun hHeld => ?_)
              refine pure_ (i := 1) (N := some 229) (v := ?_) (a' := ?_) #[false, true, false, false, false, false, false, false, false, false, false, false, false, false, false, false, false, false] rfl rfl (by kernel_rfl) (fun _ _ _ h => h) (Or.inl ⟨by rfl, ?_⟩) ?_ ?_
              rotate_left
              · intro w'
                go_simp
                with_reducible rfl
              rotate_left
              · simp only [Act.put, List.setIfInBounds_toArray, List.set_cons_zero, List.set_cons_succ, i64_w, i32_w]
                rfl
              refine pure_ (i := 4) (N := some 232) (v := ?_) (a' := ?_) #[false, true, false, false, true, false, false, false, false, false, false, false, false, false, false, false, false, false] rfl rfl (by kernel_rfl) (fun _ _ _ h => h) (Or.inl ⟨by rfl, ?_⟩) ?_ ?_
              rotate_left
              · intro w'
                go_simp
                with_reducible rfl
              rotate_left
              · simp only [Act.put, List.setIfInBounds_toArray, List.set_cons_zero, List.set_cons_succ, i64_w, i32_w]
                rfl
              refine pure_ (i := 5) (N := some 233) (v := ?_) (a' := ?_) #[false, true, false, false, true, true, false, false, false, false, false, false, false, false, false, false, false, false] rfl rfl (by kernel_rfl) (fun _ _ _ h => h) (Or.inl ⟨by rfl, ?_⟩) ?_ ?_
              rotate_left
              · intro w'
                go_simp
                with_reducible rfl
              rotate_left
              · simp only [Act.put, List.setIfInBounds_toArray, List.set_cons_zero, List.set_cons_succ, i64_w, i32_w]
                rfl
              refine pure_ (i := 7) (N := some 235) (v := ?_) (a' := ?_) #[false, true, false, false, true, true, false, true, false, false, false, false, false, false, false, false, false, false] rfl rfl (by kernel_rfl) (fun _ _ _ h => h) (Or.inl ⟨by rfl, ?_⟩) ?_ ?_
              rotate_left
              · intro w'
                go_simp
                with_reducible rfl
              rotate_left
              · simp only [Act.put, List.setIfInBounds_toArray, List.set_cons_zero, List.set_cons_succ, i64_w, i32_w]
                rfl
              refine take_ (i := 0) (N := some 228) (v := ?_) (a' := ?_) #[true, true, false, false, true, true, false, true, false, false, false, false, false, false, false, false, false, false] rfl rfl (by kernel_rfl) (fun _ _ _ h => h) (Or.inl ⟨by rfl, ?_⟩) hHeld ?_ ?_
              rotate_left
              · rintro w' ⟨s0, s1, s2, s3⟩
                go_simp
                with_reducible rfl
              rotate_left
              · simp only [Act.put, List.setIfInBounds_toArray, List.set_cons_zero, List.set_cons_succ, i64_w, i32_w]
                rfl
              refine pure_ (i := 2) (N := some 230) (v := ?_) (a' := ?_) #[true, true, true, false, true, true, false, true, false, false, false, false, false, false, false, false, false, false] rfl rfl (by kernel_rfl) (fun _ _ _ h => h) (Or.inl ⟨by rfl, ?_⟩) ?_ ?_
              rotate_left
              · intro w'
                go_simp
                with_reducible rfl
              rotate_left
              · simp only [Act.put, List.setIfInBounds_toArray, List.set_cons_zero, List.set_cons_succ, i64_w, i32_w]
                rfl
              refine take_ (i := 3) (N := some 231) (v := ?_) (a' := ?_) #[true, true, true, true, true, true, false, true, false, false, false, false, false, false, false, false, false, false] rfl rfl (by kernel_rfl) (fun _ _ _ h => h) (Or.inl ⟨by rfl, ?_⟩) hHeld ?_ ?_
              rotate_left
              · rintro w' ⟨s0, s1, s2, s3⟩
                go_simp
                with_reducible rfl
              rotate_left
              · simp only [Act.put, List.setIfInBounds_toArray, List.set_cons_zero, List.set_cons_succ, i64_w, i32_w]
                rfl
              refine take_ (i := 6) (N := some 234) (v := ?_) (a' := ?_) #[true, true, true, true, true, true, true, true, false, false, false, false, false, false, false, false, false, false] rfl rfl (by kernel_rfl) (fun _ _ _ h => h) (Or.inl ⟨by rfl, ?_⟩) hHeld ?_ ?_
              rotate_left
              · rintro w' ⟨s0, s1, s2, s3⟩
                go_simp
                with_reducible rfl
              rotate_left
              · simp only [Act.put, List.setIfInBounds_toArray, List.set_cons_zero, List.set_cons_succ, i64_w, i32_w]
                rfl
              refine pure_ (i := 8) (N := some 236) (v := ?_) (a' := ?_) #[true, true, true, true, true, true, true, true, true, false, false, false, false, false, false, false, false, false] rfl rfl (by kernel_rfl) (fun _ _ _ h => h) (Or.inl ⟨by rfl, ?_⟩) ?_ ?_
              rotate_left
              · intro w'
                go_simp
                with_reducible rfl
              rotate_left
              · simp only [Act.put, List.setIfInBounds_toArray, List.set_cons_zero, List.set_cons_succ, i64_w, i32_w]
                rfl
              refine pure_ (i := 9) (N := some 237) (v := ?_) (a' := ?_) #[true, true, true, true, true, true, true, true, true, true, false, false, false, false, false, false, false, false] rfl rfl (by kernel_rfl) (fun _ _ _ h => h) (Or.inl ⟨by rfl, ?_⟩) ?_ ?_
              rotate_left
              · intro w'
                go_simp
                with_reducible rfl
              rotate_left
              · simp only [Act.put, List.setIfInBounds_toArray, List.set_cons_zero, List.set_cons_succ, i64_w, i32_w]
                rfl
              refine take_ (i := 10) (N := some 238) (v := ?_) (a' := ?_) #[true, true, true, true, true, true, true, true, true, true, true, false, false, false, false, false, false, false] rfl rfl (by kernel_rfl) (fun _ _ _ h => h) (Or.inl ⟨by rfl, ?_⟩) hHeld ?_ ?_
              rotate_left
              · rintro w' ⟨s0, s1, s2, s3⟩
                go_simp
                with_reducible rfl
              rotate_left
              · simp only [Act.put, List.setIfInBounds_toArray, List.set_cons_zero, List.set_cons_succ, i64_w, i32_w]
                rfl
              refine pure_ (i := 11) (N := some 239) (v := ?_) (a' := ?_) #[true, true, true, true, true, true, true, true, true, true, true, true, false, false, false, false, false, false] rfl rfl (by kernel_rfl) (fun _ _ _ h => h) (Or.inl ⟨by rfl, ?_⟩) ?_ ?_
              rotate_left
              · intro w'
                go_simp
                with_reducible rfl
              rotate_left
              · simp only [Act.put, List.setIfInBounds_toArray, List.set_cons_zero, List.set_cons_succ, i64_w, i32_w]
                rfl
              refine pure_ (i := 12) (N := some 240) (v := ?_) (a' := ?_) #[true, true, true, true, true, true, true, true, true, true, true, true, true, false, false, false, false, false] rfl rfl (by kernel_rfl) (fun _ _ _ h => h) (Or.inl ⟨by rfl, ?_⟩) ?_ ?_
              rotate_left
              · intro w'
                go_simp
                with_reducible rfl
              rotate_left
              · simp only [Act.put, List.setIfInBounds_toArray, List.set_cons_zero, List.set_cons_succ, i64_w, i32_w]
                rfl
              refine pure_ (i := 13) (N := some 241) (v := ?_) (a' := ?_) #[true, true, true, true, true, true, true, true, true, true, true, true, true, true, false, false, false, false] rfl rfl (by kernel_rfl) (fun _ _ _ h => h) (Or.inl ⟨by rfl, ?_⟩) ?_ ?_
              rotate_left
              · intro w'
                go_simp
                with_reducible rfl
              rotate_left
              · simp only [Act.put, List.setIfInBounds_toArray, List.set_cons_zero, List.set_cons_succ, i64_w, i32_w]
                rfl
              refine pure_ (i := 14) (N := some 242) (v := ?_) (a' := ?_) #[true, true, true, true, true, true, true, true, true, true, true, true, true, true, true, false, false, false] rfl rfl (by kernel_rfl) (fun _ _ _ h => h) (Or.inl ⟨by rfl, ?_⟩) ?_ ?_
              rotate_left
              · intro w'
                go_simp
                with_reducible rfl
              rotate_left
              · simp only [Act.put, List.setIfInBounds_toArray, List.set_cons_zero, List.set_cons_succ, i64_w, i32_w]
                rfl
              refine pure_ (i := 15) (N := some 243) (v := ?_) (a' := ?_) #[true, true, true, true, true, true, true, true, true, true, true, true, true, true, true, true, false, false] rfl rfl (by kernel_rfl) (fun _ _ _ h => h) (Or.inl ⟨by rfl, ?_⟩) ?_ ?_
              rotate_left
              · intro w'
                go_simp
                with_reducible rfl
              rotate_left
              · simp only [Act.put, List.setIfInBounds_toArray, List.set_cons_zero, List.set_cons_succ, i64_w, i32_w]
                rfl
              refine pure_ (i := 16) (N := some 244) (v := ?_) (a' := ?_) #[true, true, true, true, true, true, true, true, true, true, true, true, true, true, true, true, true, false] rfl rfl (by kernel_rfl) (fun _ _ _ h => h) (Or.inl ⟨by rfl, ?_⟩) ?_ ?_
              rotate_left
              · intro w'
                go_simp
                with_reducible rfl
              rotate_left
              · simp only [Act.put, List.setIfInBounds_toArray, List.set_cons_zero, List.set_cons_succ, i64_w, i32_w]
                rfl
              refine last_ (i := 17) (N := none) #[true, true, true, true, true, true, true, true, true, true, true, true, true, true, true, true, true, true] rfl rfl (by kernel_rfl) (by decide) (fun K hK => ?_)
              refine skip_ (w1 := ?_) (by rfl) rfl ?_ ?_
              rotate_left
              · go_simp
                rfl
              refine hK.out _ _ ?_
              clear hK K
              refine done_ (by kernel_rfl) ?_
              obtain ⟨X17, hX17⟩ : ∃ X, (wf.setCell ⟨bW, i, none⟩ (.int .i64 (acc2 : Nat))).drew = X := ⟨_, rfl⟩
              have HB3 : Hid (Below w13.heap.size w13 X17) := by rw [← hX17]; exact Lib.hid ((HB2.out.setCell (p := ⟨bW, i, none⟩) (by have := HBW.out; show w13.heap.size ≤ bW; omega) _).drew)
              have HW3 : Hid (X17.heap[bW]? = some (.cells (wcs ((ways Ks idx).take i ++ [acc2]) m') 3 (0, 0))) := by
                rw [← hX17]
                have h := heap_setCell_same wf bW i _ _ (.int .i64 (acc2 : Nat)) HW2.out
                rw [← wcs_set (a := acc), HWL.out]
                exact Lib.hid h
              have HX3 : Hid (X17.heap[bX]? = some (.cells #[.slice (some ⟨bW, 0, none⟩) r r] 26 (0, 0))) := by rw [← hX17]; exact Lib.hid ((Below.heap_setCell _ _ _ _ (by show bX ≠ bW; omega)).trans HX2.out)
              have HY3 : Hid (X17.heap[bY]? = some (.cells #[.int .i64 (m : Int)] 3 (0, 0))) := by rw [← hX17]; exact Lib.hid ((Below.heap_setCell _ _ _ _ (by show bY ≠ bW; omega)).trans HY2.out)
              have HL3 : Hid (X17.heap[gl]? = some (.cells #[.int .i64 kr.l, .int .i64 kr.h] 3 (0, 0))) := by rw [← hX17]; exact Lib.hid ((Below.heap_setCell _ _ _ _ (by show gl ≠ bW; omega)).trans HL2.out)
              clear sk sX sY sW sWf c0 c1 c2 g1 g2 g3 g4 hw1 hw2 hcv hsh hsm HB2 HW2 HX2 HY2 HL2
              go_wp2_with fail
              refine ⟨⟨j + 1, by omega, by simp, HB3.out, by rw [HACC.out]; exact HW3.out, HX3.out, HY3.out, HL3.out⟩, by simp [intOf]; omega⟩
            · obtain rfl : j = 2 := by omega
              have HW2 : Hid (we.heap[bW]? = some (.cells (wcs ((ways Ks idx).take (i + 1)) (r - (i + 1))) 3 (0, 0))) := by
                rw [HWI.out, HM2.out]
                exact HW1
              go_wp2_with fail
              refine ⟨⟨i + 1, by omega, by simp, HB1.out, HW2.out, HX1.out, HY1.out⟩, by simp [intOf]; omega⟩
        · as_aux_lemma =>
          obtain rfl : r = i := by omega
          have hil : idx.length = r := by rw [← HDG.out.rk.len]; exact HR.out
          have hit : idx.take r = idx := List.take_of_length_le (by omega)
          have hWl : (ways Ks idx).length = r := by rw [ways, List.length_map]; exact hil
          have HKW9 : Hid (wa'.heap[bW]? = some (.cells (wcs (ways Ks idx) 0) 3 (0, 0))) := by
            rw [List.take_of_length_le (by omega), Nat.sub_self] at HKW
            exact HKW
          have HATG : Hid (∀ W, Below w13.heap.size w13 W → W.heap[bW]? = some (.cells (wcs (ways Ks idx) 0) 3 (0, 0)) → W.heap[bX]? = some (.cells #[.slice (some ⟨bW, 0, none⟩) r r] 26 (0, 0)) → W.heap[bY]? = some (.cells #[.int .i64 (m : Int)] 3 (0, 0)) → ∀ (y : Int) (qq : Nat), En idx y qq →
              Calls Try.prog 11 #[.int .i64 y, .pointer (some ⟨bY, 0, none⟩), .pointer (some ⟨bk, 0, none⟩), .pointer (some ⟨bX, 0, none⟩)] W fun e w' => e = .returned (.tuple #[.int .i64 (Go.Proofs.Ytiglkpgoakibaaa.lv Ks qq : Nat), .int .i64 (wy Ks qq : Nat)]) ∧ Below W.heap.size W w') := Lib.hid fun W hW h1 h2 h3 y qq he => by
            have sX : W.cell? ⟨bX, 0, none⟩ = some (.slice (some ⟨bW, 0, none⟩) r r) := (blk_cell' h2 0).trans rfl
            have sY : W.cell? ⟨bY, 0, none⟩ = some (.int .i64 (m : Int)) := (blk_cell' h3 0).trans rfl
            have sK : W.cell? ⟨bk, 0, none⟩ = some (.slice Ak r ck) := (blk_cell' ((hW.block _ (blk_lt' KB13.out)).trans KB13.out) 0).trans rfl
            have hl0 : (wl (ways Ks idx) 0).length = r := by rw [wl_len]; omega
            rw [← hl0] at sX
            rw [← HR.out] at sK
            exact at_any sY sK sX (HRK13.out.below hW) (RW_own h1) (atR_of HDG.out.wf HDG.out.rk (i := r) (fun j' n' _ hn' => by
              have h := wl_pre (ways Ks idx) [] 0 _ _ (ways_at hn')
              rw [List.append_nil] at h
              exact h) (by rw [hit]; exact he))
          have hbnd := En.bound HDG.out.rk HDG.out.en
          rw [HR.out] at hbnd
          have d1 : decide (x < -2) = false := decide_eq_false (by omega)
          have d2 : decide ((r : Int) ≤ x) = false := decide_eq_false (by omega)
          have h10 := H13.out.m10
          have hlv := HDG.out.wf.lv_le HDG.out.lt
          have hcnt : wy Ks nn * 2 ^ (Go.Proofs.Ytiglkpgoakibaaa.lv Ks nn) = s := by rw [cnt_sem HDG.out.wf HDG.out.lt HDG.out.sem]; exact HS.out
          have hs40 := wy_40 HDG.out.wf (Nat.le_trans h10 (by decide)) HDG.out.lt 0
          rw [Nat.sub_zero] at hs40
          have HATN := Lib.hid (HATG.out wa' HBr.out HKW9.out HKX.out HKY.out x nn HDG.out.en)
          have hsh : Op.shift .shl .i64 (wy Ks nn : Int) .u64 (Go.Proofs.Ytiglkpgoakibaaa.lv Ks nn : Int) = pure (.int .i64 (s : Int)) := by
            rw [← hcnt]
            exact shl_u _ _ (by omega) hs40
          have hcv : IntKind.u64.wrap (Go.Proofs.Ytiglkpgoakibaaa.lv Ks nn : Int) = (Go.Proofs.Ytiglkpgoakibaaa.lv Ks nn : Int) := wrap_u _ (by omega)
          obtain ⟨ov, hov⟩ : ∃ ov, Go.Proofs.Ytiglkpgoakibaaa.lv Ks nn = ov := ⟨_, rfl⟩
          obtain ⟨wv, hwv⟩ : ∃ wv, wy Ks nn = wv := ⟨_, rfl⟩
          rw [hov, hwv] at hsh HATN
          rw [hov] at hcv
          have HOV := Lib.hid hov
          have HIL := Lib.hid hil
          clear hcnt hs40 hlv hbnd hWl hit hov hwv hil HKW
          go_wp2_with fail
          refine HATN.out.mono ?_
          rintro e wg ⟨rfl, hb⟩
          have HBg := Lib.hid (HBr.out.trans (hb.mono HBr.out.size))
          have HWg := Lib.hid ((hb.block _ (blk_lt' HKW9.out)).trans HKW9.out)
          have HXg := Lib.hid ((hb.block _ (blk_lt' HKX.out)).trans HKX.out)
          have HYg := Lib.hid ((hb.block _ (blk_lt' HKY.out)).trans HKY.out)
          clear hb HATN HKW9 HKX HKY HBr sk SK d1 d2
          go_upto_if 271 with fail
          go_cut [] (fun wx => Hid (Below w13.heap.size w13 wx))
          case first =>
            cases ps
            · go_wp2_with fail
              go_meet
              exact HBg
            · as_aux_lemma =>
              have hs0 : 0 < s := of_decide_eq_true HPS.out
              have hsf : 0 < (SF m rs f).length := by rw [HS.out]; exact hs0
              have hnn : nn ≠ 0 := fun h => by
                have h1 := (no_sem HDG.out.wf HDG.out.lt HDG.out.sem).1 h
                have h2 : (SF m rs f).length = 0 := h1
                omega
              obtain ⟨xv, gv, hv1, hv2, hv3, hv4, hv5, hv6, hv7⟩ := HV13.out hsf
              obtain rfl : m = lw := hv3.symm
              obtain rfl : m = cv := hv4.symm
              subst hv5
              have hxv : xv = fst Ks m m nn [] := by
                have h1 := fst_sem HDG.out.wf HDG.out.lt hnn HDG.out.sem
                have h2 : (SF m rs f).head? = some (fst Ks m m nn []) := h1
                rw [hv1] at h2
                exact Option.some.inj h2
              have hmk := mkb m wg (by omega)
              rw [fbs_0] at hmk
              obtain ⟨wh, hwh⟩ : ∃ wh, wg.alloc (.cells (fbs [] m) 4) = wh := ⟨_, rfl⟩
              have bh : Below wg.heap.size wg wh := by rw [← hwh]; exact (Below.refl _ wg).alloc (Nat.le_refl _) _
              have kh : wh.heap[wg.heap.size]? = some (.cells (fbs [] m) 4 (0, 0)) := by rw [← hwh]; exact allocNew _ _ _ rfl
              have HBh := Lib.hid (HBg.out.trans (bh.mono HBg.out.size))
              have HWh := Lib.hid ((bh.block _ (blk_lt' HWg.out)).trans HWg.out)
              have HXh := Lib.hid ((bh.block _ (blk_lt' HXg.out)).trans HXg.out)
              have HYh := Lib.hid ((bh.block _ (blk_lt' HYg.out)).trans HYg.out)
              have hlf : bY < wg.heap.size := blk_lt' HYg.out
              have sYg : wg.cell? ⟨bY, 0, none⟩ = some (.int .i64 (m : Int)) := (blk_cell' HYg.out 0).trans rfl
              have HFC : Hid (wh.heap[wg.heap.size]? = some (.cells (fbs (List.replicate (Go.Proofs.Ytiglkpgoakibaaa.lv Ks nn) false) (m - Go.Proofs.Ytiglkpgoakibaaa.lv Ks nn)) 4 (0, 0))) := by
                have h := fbs_rep [] (Go.Proofs.Ytiglkpgoakibaaa.lv Ks nn) (m - Go.Proofs.Ytiglkpgoakibaaa.lv Ks nn)
                have hlv := HDG.out.wf.lv_le HDG.out.lt
                rw [show Go.Proofs.Ytiglkpgoakibaaa.lv Ks nn + (m - Go.Proofs.Ytiglkpgoakibaaa.lv Ks nn) = m by omega, List.nil_append] at h
                rw [h]
                exact Lib.hid kh
              have HV1 := Lib.hid hv1
              have HV2 := Lib.hid hv2
              have HV7 := Lib.hid hv7
              have HXV := Lib.hid hxv
              have HSF := Lib.hid hsf
              have HNN := Lib.hid hnn
              clear bh kh hsf hxv hv1 hv2 hv7 hv6
              go_upto_block 6 with fail
              generalize wg.heap.size = bF at *
              clear hwh hmk sYg
              go_wp2_with fail
              go_loopw [29] (fun tv wr => ∃ (y : Int) (qq : Nat) (p : List Bool), tv = .int .i64 y ∧ Hid (En idx y qq) ∧ Hid (qq ≠ 0) ∧ Hid (p.length = Go.Proofs.Ytiglkpgoakibaaa.lv Ks qq) ∧ Hid (fst Ks m (m - Go.Proofs.Ytiglkpgoakibaaa.lv Ks qq) qq p = xv) ∧ Hid (Below w13.heap.size w13 wr) ∧ Hid (wr.heap[bW]? = some (.cells (wcs (ways Ks idx) 0) 3 (0, 0))) ∧ Hid (wr.heap[bX]? = some (.cells #[.slice (some ⟨bW, 0, none⟩) r r] 26 (0, 0))) ∧ Hid (wr.heap[bY]? = some (.cells #[.int .i64 (m : Int)] 3 (0, 0))) ∧ Hid (wr.heap[bF]? = some (.cells (fbs p (m - Go.Proofs.Ytiglkpgoakibaaa.lv Ks qq)) 4 (0, 0)))) (fun tv _ => (intOf tv + 3).toNat)
              case atStart => exact ⟨x, nn, _, rfl, HDG.out.en, HNN.out, List.length_replicate, by rw [HXV.out]; exact (fst_root HDG.out.wf HDG.out.lt HNN.out).symm, HBh.out, HWh.out, HXh.out, HYh.out, HFC.out⟩
              case round =>
                obtain ⟨y, qq, p, rfl, HEN, HQ0, HPL, HFST, HB1, HW1, HX1, HY1, HF1⟩ := hrel
                obtain ⟨wi, rfl⟩ : ∃ wi : World, wi = wr := ⟨_, rfl⟩
                have hKB := (HB1.out.block _ (blk_lt' KB13.out)).trans KB13.out
                by_cases hy : 0 ≤ y
                · as_aux_lemma =>
                  obtain ⟨j, rfl⟩ := Int.eq_ofNat_of_zero_le hy
                  obtain ⟨kn, kr, a1, a2, a3, a4, a5, a6, a7, a8, a9, a10, a11, a12⟩ := en_knot HDG.out.wf HDG.out.rk HEN.out
                  obtain ⟨q', p', b1, b2, b3, b4, b5', b6, b7, b8⟩ := first_step HDG.out.wf a2 a3 HPL.out HFST.out
                  obtain ⟨c0, c1, c2⟩ := (HRK13.out.below HB1.out).hc j kr a4
                  have hjr := (List.getElem?_eq_some_iff.1 a4).1
                  rw [HR.out] at hjr
                  obtain rfl := HRK13.out.hA (by rw [HR.out]; omega)
                  have sk : wi.cell? ⟨bk, 0, none⟩ = some (.slice (some ⟨kb, 0, none⟩) r ck) := (blk_cell' hKB 0).trans rfl
                  have HJ := Lib.hid (HATG.out wi HB1.out HW1.out HX1.out HY1.out kr.l kn.l a7.whole)
                  have hjr' : (j : Int) < (r : Int) := by omega
                  have hml : (intOf (Value.int .i64 kr.l) + 3).toNat < (intOf (Value.int .i64 (j : Int)) + 3).toNat := by simp only [intOf]; omega
                  have hmh : (intOf (Value.int .i64 kr.h) + 3).toNat < (intOf (Value.int .i64 (j : Int)) + 3).toNat := by simp only [intOf]; omega
                  have HML := Lib.hid hml
                  have HMH := Lib.hid hmh
                  have HB1' := Lib.hid b1
                  have HB2' := Lib.hid b2
                  have HB4' := Lib.hid b4
                  have HB5' := Lib.hid b5'
                  have HB6' := Lib.hid b6
                  have HB7' := Lib.hid b7
                  have HB8' := Lib.hid b8
                  have HA4 := Lib.hid a4
                  have HA5 := Lib.hid a5
                  have HA7 := Lib.hid a7
                  have HA8 := Lib.hid a8
                  have hom : (kr.o : Int) < (m : Int) := by omega
                  clear hml hmh b1 b2 b3 b4 b5' b6 b7 b8 a1 a2 a3 a4 a5 a6 a7 a8 a9 a10 a11 a12 hKB
                  go_wp2_with fail
                  refine HJ.out.mono ?_
                  rintro e wj ⟨rfl, hb⟩
                  have HB2 := Lib.hid (HB1.out.trans (hb.mono HB1.out.size))
                  have HW2 := Lib.hid ((hb.block _ (blk_lt' HW1.out)).trans HW1.out)
                  have HX2 := Lib.hid ((hb.block _ (blk_lt' HX1.out)).trans HX1.out)
                  have HY2 := Lib.hid ((hb.block _ (blk_lt' HY1.out)).trans HY1.out)
                  have HF2 := Lib.hid ((hb.block _ (blk_lt' HF1.out)).trans HF1.out)
                  obtain ⟨c0, c1, c2⟩ := (HRK13.out.below HB2.out).hc j kr HA4.out
                  have sk : wj.cell? ⟨bk, 0, none⟩ = some (.slice (some ⟨kb, 0, none⟩) r ck) := (blk_cell' ((HB2.out.block _ (blk_lt' KB13.out)).trans KB13.out) 0).trans rfl
                  clear hb HJ HB1 HW1 HX1 HY1 HF1
                  by_cases hl0 : kn.l = 0
                  · as_aux_lemma =>
                    have hz : (((wy Ks kn.l : Nat) : Int) == 0) = true := by rw [HB8'.out.1 hl0]; rfl
                    obtain ⟨ov2, hov2⟩ : ∃ ov, Go.Proofs.Ytiglkpgoakibaaa.lv Ks kn.l = ov := ⟨_, rfl⟩
                    obtain ⟨wv2, hwv2⟩ : ∃ wv, wy Ks kn.l = wv := ⟨_, rfl⟩
                    rw [hwv2] at hz
                    simp only [hov2, hwv2]
                    have HL0 := Lib.hid hl0
                    have hq' : q' = kn.h := by rw [HB1'.out, if_pos hl0]
                    have HQE := Lib.hid hq'
                    have sFf : wj.frozen? ⟨bF, kr.o, none⟩ = false := blk_frozen' HF2.out kr.o
                    obtain ⟨bv, sF⟩ : ∃ v, wj.cell? ⟨bF, kr.o, none⟩ = some v := by
                      rw [blk_cell' HF2.out]
                      have hsz : (fbs p (m - Go.Proofs.Ytiglkpgoakibaaa.lv Ks qq)).size = m := by
                        have h1 := HPL.out
                        have h2 := HDG.out.wf.lv_le (En.lt HDG.out.rk HDG.out.wf HEN.out)
                        simp [fbs]
                        omega
                      exact ⟨_, Array.getElem?_eq_getElem (by omega)⟩
                    clear hov2 hwv2 hl0 hq'
                    go_upto_region 43 with fail
                    refine start_ (n := 14) (S := fun w' => w'.cell? ⟨bk, 0, none⟩ = some (.slice (some ⟨kb, 0, none⟩) r ck) ∧ w'.cell? ⟨kb, j * 3, none⟩ = some (.int .i64 (kr.o : Nat)) ∧ w'.cell? ⟨kb, j * 3 + 2, none⟩ = some (.int .i64 kr.h)) (ds := [12]) #[false, false, false, false, false, false, false, false, false, false, false, false, false, false] (by kernel_rfl) rfl rfl ⟨sk, c0, c2⟩ (fun hHeld => ?_)
                    refine pure_ (i := 0) (N := some 290) (v := ?_) (a' := ?_) #[true, false, false, false, false, false, false, false, false, false, false, false, false, false] rfl rfl (by kernel_rfl) (fun _ _ _ h => h) (Or.inl ⟨by rfl, ?_⟩) ?_ ?_
                    rotate_left
                    · intro w'
                      go_simp
                      with_reducible rfl
                    rotate_left
                    · simp only [Act.put, List.setIfInBounds_toArray, List.set_cons_zero, List.set_cons_succ, i64_w, i32_w]
                      rfl
                    refine pure_ (i := 2) (N := some 292) (v := ?_) (a' := ?_) #[true, false, true, false, false, false, false, false, false, false, false, false, false, false] rfl rfl (by kernel_rfl) (fun _ _ _ h => h) (Or.inl ⟨by rfl, ?_⟩) ?_ ?_
                    rotate_left
                    · intro w'
                      go_simp
                      with_reducible rfl
                    rotate_left
                    · simp only [Act.put, List.setIfInBounds_toArray, List.set_cons_zero, List.set_cons_succ, i64_w, i32_w]
                      rfl
                    refine pure_ (i := 7) (N := some 297) (v := ?_) (a' := ?_) #[true, false, true, false, false, false, false, true, false, false, false, false, false, false] rfl rfl (by kernel_rfl) (fun _ _ _ h => h) (Or.inl ⟨by rfl, ?_⟩) ?_ ?_
                    rotate_left
                    · intro w'
                      go_simp
                      with_reducible rfl
                    rotate_left
                    · simp only [Act.put, List.setIfInBounds_toArray, List.set_cons_zero, List.set_cons_succ, i64_w, i32_w]
                      rfl
                    refine take_ (i := 1) (N := some 291) (v := ?_) (a' := ?_) #[true, true, true, false, false, false, false, true, false, false, false, false, false, false] rfl rfl (by kernel_rfl) (fun _ _ _ h => h) (Or.inl ⟨by rfl, ?_⟩) hHeld ?_ ?_
                    rotate_left
                    · rintro w' ⟨s0, s1, s2⟩
                      go_simp
                      with_reducible rfl
                    rotate_left
                    · simp only [Act.put, List.setIfInBounds_toArray, List.set_cons_zero, List.set_cons_succ, i64_w, i32_w]
                      rfl
                    refine pure_ (i := 3) (N := some 293) (v := ?_) (a' := ?_) #[true, true, true, true, false, false, false, true, false, false, false, false, false, false] rfl rfl (by kernel_rfl) (fun _ _ _ h => h) (Or.inl ⟨by rfl, ?_⟩) ?_ ?_
                    rotate_left
                    · intro w'
                      go_simp
                      with_reducible rfl
                    rotate_left
                    · simp only [Act.put, List.setIfInBounds_toArray, List.set_cons_zero, List.set_cons_succ, i64_w, i32_w]
                      rfl
                    refine pure_ (i := 4) (N := some 294) (v := ?_) (a' := ?_) #[true, true, true, true, true, false, false, true, false, false, false, false, false, false] rfl rfl (by kernel_rfl) (fun _ _ _ h => h) (Or.inl ⟨by rfl, ?_⟩) ?_ ?_
                    rotate_left
                    · intro w'
                      go_simp
                      with_reducible rfl
                    rotate_left
                    · simp only [Act.put, List.setIfInBounds_toArray, List.set_cons_zero, List.set_cons_succ, i64_w, i32_w]
                      rfl
                    refine take_ (i := 5) (N := some 295) (v := ?_) (a' := ?_) #[true, true, true, true, true, true, false, true, false, false, false, false, false, false] rfl rfl (by kernel_rfl) (fun _ _ _ h => h) (Or.inl ⟨by rfl, ?_⟩) hHeld ?_ ?_
                    rotate_left
                    · rintro w' ⟨s0, s1, s2⟩
                      go_simp
                      with_reducible rfl
                    rotate_left
                    · simp only [Act.put, List.setIfInBounds_toArray, List.set_cons_zero, List.set_cons_succ, i64_w, i32_w]
                      rfl
                    refine take_ (i := 6) (N := some 296) (v := ?_) (a' := ?_) #[true, true, true, true, true, true, true, true, false, false, false, false, false, false] rfl rfl (by kernel_rfl) (fun _ _ _ h => h) (Or.inl ⟨by rfl, ?_⟩) hHeld ?_ ?_
                    rotate_left
                    · rintro w' ⟨s0, s1, s2⟩
                      go_simp
                      with_reducible rfl
                    rotate_left
                    · simp only [Act.put, List.setIfInBounds_toArray, List.set_cons_zero, List.set_cons_succ, i64_w, i32_w]
                      rfl
                    refine pure_ (i := 8) (N := some 298) (v := ?_) (a' := ?_) #[true, true, true, true, true, true, true, true, true, false, false, false, false, false] rfl rfl (by kernel_rfl) (fun _ _ _ h => h) (Or.inl ⟨by rfl, ?_⟩) ?_ ?_
                    rotate_left
                    · intro w'
                      go_simp
                      with_reducible rfl
                    rotate_left
                    · simp only [Act.put, List.setIfInBounds_toArray, List.set_cons_zero, List.set_cons_succ, i64_w, i32_w]
                      rfl
                    refine pure_ (i := 9) (N := some 299) (v := ?_) (a' := ?_) #[true, true, true, true, true, true, true, true, true, true, false, false, false, false] rfl rfl (by kernel_rfl) (fun _ _ _ h => h) (Or.inl ⟨by rfl, ?_⟩) ?_ ?_
                    rotate_left
                    · intro w'
                      go_simp
                      with_reducible rfl
                    rotate_left
                    · simp only [Act.put, List.setIfInBounds_toArray, List.set_cons_zero, List.set_cons_succ, i64_w, i32_w]
                      rfl
                    refine take_ (i := 10) (N := some 300) (v := ?_) (a' := ?_) #[true, true, true, true, true, true, true, true, true, true, true, false, false, false] rfl rfl (by kernel_rfl) (fun _ _ _ h => h) (Or.inl ⟨by rfl, ?_⟩) hHeld ?_ ?_
                    rotate_left
                    · rintro w' ⟨s0, s1, s2⟩
                      go_simp
                      with_reducible rfl
                    rotate_left
                    · simp only [Act.put, List.setIfInBounds_toArray, List.set_cons_zero, List.set_cons_succ, i64_w, i32_w]
                      rfl
                    refine pure_ (i := 11) (N := some 301) (v := ?_) (a' := ?_) #[true, true, true, true, true, true, true, true, true, true, true, true, false, false] rfl rfl (by kernel_rfl) (fun _ _ _ h => h) (Or.inl ⟨by rfl, ?_⟩) ?_ ?_
                    rotate_left
                    · intro w'
                      go_simp
                      with_reducible rfl
                    rotate_left
                    · simp only [Act.put, List.setIfInBounds_toArray, List.set_cons_zero, List.set_cons_succ, i64_w, i32_w]
                      rfl
                    refine last_ (i := 12) (N := none) #[true, true, true, true, true, true, true, true, true, true, true, true, true, false] rfl rfl (by kernel_rfl) (by decide) (fun K hK => ?_)
                    refine skip_ (w1 := ?_) (by rfl) rfl ?_ ?_
                    rotate_left
                    · go_simp
                      rfl
                    refine hK.out _ _ ?_
                    clear hK K
                    refine pure_ (i := 13) (N := some 30) (v := ?_) (a' := ?_) #[true, true, true, true, true, true, true, true, true, true, true, true, true, true] rfl rfl (by kernel_rfl) (fun _ _ _ h => h) (Or.inl ⟨by rfl, ?_⟩) ?_ ?_
                    rotate_left
                    · intro w'
                      go_simp
                      with_reducible rfl
                    rotate_left
                    · simp only [Act.put, List.setIfInBounds_toArray, List.set_cons_zero, List.set_cons_succ, i64_w, i32_w]
                      rfl
                    refine done_ (by kernel_rfl) ?_
                    obtain ⟨X, hX⟩ : ∃ X, (wj.setCell ⟨bF, kr.o, none⟩ (.bool true)).drew = X := ⟨_, rfl⟩
                    have hle13 : w13.heap.size ≤ bF := by have := HBW.out; omega
                    have HB3 : Hid (Below w13.heap.size w13 X) := by rw [← hX]; exact Lib.hid ((HB2.out.setCell (p := ⟨bF, kr.o, none⟩) hle13 _).drew)
                    have HW3 : Hid (X.heap[bW]? = some (.cells (wcs (ways Ks idx) 0) 3 (0, 0))) := by rw [← hX]; exact Lib.hid ((Below.heap_setCell _ _ _ _ (by show bW ≠ bF; omega)).trans HW2.out)
                    have HX3 : Hid (X.heap[bX]? = some (.cells #[.slice (some ⟨bW, 0, none⟩) r r] 26 (0, 0))) := by rw [← hX]; exact Lib.hid ((Below.heap_setCell _ _ _ _ (by show bX ≠ bF; omega)).trans HX2.out)
                    have HY3 : Hid (X.heap[bY]? = some (.cells #[.int .i64 (m : Int)] 3 (0, 0))) := by rw [← hX]; exact Lib.hid ((Below.heap_setCell _ _ _ _ (by show bY ≠ bF; omega)).trans HY2.out)
                    have HF3 : Hid (X.heap[bF]? = some (.cells (fbs p' (m - Go.Proofs.Ytiglkpgoakibaaa.lv Ks q')) 4 (0, 0))) := by
                      rw [← hX, ← HB6'.out HL0.out, ← HA5.out]
                      exact Lib.hid (heap_setCell_same wj bF kr.o _ _ (.bool true) HF2.out)
                    clear sk c0 c1 c2 sF sFf hz
                    go_wp2_with fail
                    subst hX
                    refine ⟨⟨kr.h, q', p', rfl, Lib.hid (by rw [HQE.out]; exact HA8.out.whole), HB2', HB4', HB5', HB3, HW3, HX3, HY3, HF3⟩, HMH.out⟩
                  · as_aux_lemma =>
                    have hz : (((wy Ks kn.l : Nat) : Int) == 0) = false := by
                      have : wy Ks kn.l ≠ 0 := fun h => hl0 (HB8'.out.2 h)
                      simpa using this
                    obtain ⟨ov2, hov2⟩ : ∃ ov, Go.Proofs.Ytiglkpgoakibaaa.lv Ks kn.l = ov := ⟨_, rfl⟩
                    obtain ⟨wv2, hwv2⟩ : ∃ wv, wy Ks kn.l = wv := ⟨_, rfl⟩
                    rw [hwv2] at hz
                    simp only [hov2, hwv2]
                    have hq' : q' = kn.l := by rw [HB1'.out, if_neg hl0]
                    have HQE := Lib.hid hq'
                    have HF3 : Hid (wj.heap[bF]? = some (.cells (fbs p' (m - Go.Proofs.Ytiglkpgoakibaaa.lv Ks q')) 4 (0, 0))) := by
                      rw [← HB7'.out hl0]
                      exact HF2
                    clear hov2 hwv2 hl0 hq'
                    go_wp2_with fail
                    refine ⟨⟨kr.l, q', p', rfl, Lib.hid (by rw [HQE.out]; exact HA7.out.whole), HB2', HB4', HB5', HB2, HW2, HX2, HY2, HF3⟩, HML.out⟩
                · as_aux_lemma =>
                  have hq1 : y < 0 ∧ qq = 1 := by
                    have h0 := HQ0.out
                    rcases HEN.out with ⟨h1, h2⟩ | ⟨h1, h2⟩ | ⟨j', h1, h2⟩
                    · exact absurd h2 h0
                    · exact ⟨by omega, h2⟩
                    · omega
                  obtain ⟨hy0, rfl⟩ := hq1
                  have hpl := HPL.out
                  have hfs := HFST.out
                  rw [HDG.out.wf.lv1] at hpl
                  rw [HDG.out.wf.lv1, Nat.sub_self] at hfs HF1
                  have hpx : p = xv := hfs
                  rw [hpx] at HF1
                  have HX0 : Hid (xv.length = m) := HV2
                  have hx0 : ((SF m rs f).take 64)[0]? = some xv := by
                    have h := HV1.out
                    rw [List.head?_eq_getElem?] at h
                    rw [List.getElem?_take_of_lt (by omega)]
                    exact h
                  have ht0 : 0 < t := by rw [← HT.out]; exact (List.getElem?_eq_some_iff.1 hx0).1
                  have ht0' : (0 : Int) < (t : Int) := by omega
                  obtain ⟨Au, cu, r1, r2, r3⟩ := HRL13.out.hc 0 xv hx0
                  obtain rfl := HRL13.out.hA (by rw [HT.out]; exact ht0)
                  rw [HX0.out] at r1
                  have hgc := fbs_C (by rw [HX0.out]; omega) HV7.out
                  have HS1 : Hid (Calls Try.prog 12 #[.slice (some ⟨bF, 0, none⟩) m m, .slice (some ⟨gv, 0, none⟩) m m] wi fun e w' => e = .returned (.bool true) ∧ Drawn0 wi w') := by
                    have h := ignitiontop_sameVariant.calls 100 (some ⟨bF, 0, none⟩) m xv (some ⟨gv, 0, none⟩) m xv true wi (fbs_C (by rw [HX0.out]; omega) HF1.out) (by rw [HX0.out]; exact Nat.le_refl _) (Kd.C_below hgc HB1.out) (by rw [HX0.out]; exact Nat.le_refl _) (same_f xv (by rw [HX0.out]; omega))
                    rw [HX0.out] at h
                    exact Lib.hid h
                  have HS2 : Hid (∀ W, Below wi.heap.size wi W → Calls Try.prog 12 #[.slice (some ⟨bF, 0, none⟩) m m, .slice Au m cu] W fun e w' => e = .returned (.bool true) ∧ Drawn0 W w') := Lib.hid fun W hW => by
                    have h := ignitiontop_sameVariant.calls 100 (some ⟨bF, 0, none⟩) m xv Au cu xv true W (fbs_C (by rw [HX0.out]; omega) ((hW.block _ (blk_lt' HF1.out)).trans HF1.out)) (by rw [HX0.out]; exact Nat.le_refl _) (Kd.C_below (Kd.C_below r3 HB1.out) hW) r2 (same_f xv (by rw [HX0.out]; omega))
                    rw [HX0.out] at h
                    exact h
                  have HSA : Hid (w13.cell? ⟨ga, 0, none⟩ = some (.slice Au m cu)) := Lib.hid r1
                  have hyd : decide (0 ≤ y) = false := decide_eq_false (by omega)
                  clear hy hpl hfs hpx hx0 r1 r2 r3 hgc hKB ht0
                  go_wp2_with fail
                  refine HS1.out.mono ?_
                  rintro e wj ⟨rfl, hD⟩
                  have HB2 := Lib.hid (HB1.out.trans (hD.below.mono HB1.out.size))
                  have sa : wj.cell? ⟨ga, 0, none⟩ = some (.slice Au m cu) := pw_cell_below HB2.out HSA.out
                  have HS2 := Lib.hid (HS2.out wj hD.below)
                  clear hD
                  go_wp2_with fail
                  refine HS2.out.mono ?_
                  rintro e wl' ⟨rfl, hD⟩
                  have HB3 := Lib.hid (HB2.out.trans (hD.below.mono HB2.out.size))
                  clear hD
                  go_wp2_with fail
                  go_meet
                  exact HB3
          case rest =>
            as_aux_lemma =>
            have HBc := hcut
            obtain ⟨wn, rfl⟩ : ∃ wn : World, wn = wc := ⟨_, rfl⟩
            have h10 := H13.out.m10
            have HBO : Hid (∀ (xk : List Bool) (Au : Option Addr) (cu : Nat), Kd.C Kd.bool w13 Au xk.length xk → xk.length = m → xk.length ≤ cu → ∀ W, Below w13.heap.size w13 W → Calls Try.prog 14 #[.slice Au m cu] W fun e w' => ∃ (A : Option Addr) (c g o : Nat), e = .returned (.slice A m c) ∧ Below W.heap.size W w' ∧ RdB w' A g o xk) := Lib.hid fun xk Au cu h1 h2 h3 W hW => boolsC (Kd.C_below h1 hW) h2 h3 (by omega)
            have HFO : Hid (∀ (xk : List Bool) (bb : Bool), xk.length = m → qsem rs f (vf xk) = bb → ∀ (W : World) (A : Option Addr) (c g o : Nat), Below w13.heap.size w13 W → RdB W A g o xk → Calls Try.prog 13 #[.agg #[.slice O0 m oc0, .slice O1 q oc1], .slice Ak r ck, .int .i64 x, .slice A m c] W fun e w' => e = .returned (.tuple #[.bool bb, .int .i64 0]) ∧ Below W.heap.size W w') := Lib.hid fun xk bb h2 h3 W A c g o hW hR => by
              have h := (H13.out.below hW).fol (cv := c) HDG.out (HRK13.out.below hW) HCK.out hR h2 HR.out
              rw [h3] at h
              exact h
            have hu25 := Try.underlying25
            clear hcut
            go_wp2_with fail
            go_loopw [33] (fun tv wr => ∃ k : Nat, k ≤ t ∧ tv = .int .i64 k ∧ Hid (Below w13.heap.size w13 wr)) (fun tv _ => t - (intOf tv).toNat)
            case atStart => exact ⟨0, Nat.zero_le _, rfl, HBc.out⟩
            case round =>
              obtain ⟨k, hk, rfl, HB1⟩ := hrel
              obtain ⟨wi, rfl⟩ : ∃ wi : World, wi = wr := ⟨_, rfl⟩
              have q0 := (H13.out.below HB1.out).q0
              have q1 := (H13.out.below HB1.out).q1
              have sk : wi.cell? ⟨bk, 0, none⟩ = some (.slice Ak r ck) := (blk_cell' ((HB1.out.block _ (blk_lt' KB13.out)).trans KB13.out) 0).trans rfl
              by_cases hlt : k < t
              · as_aux_lemma =>
                obtain ⟨xk, hxk⟩ : ∃ x, ((SF m rs f).take 64)[k]? = some x := ⟨_, List.getElem?_eq_getElem (by rw [HT.out]; exact hlt)⟩
                obtain ⟨hxm, hxq⟩ := SF_len xk (List.mem_of_mem_take (List.mem_of_getElem? hxk))
                obtain ⟨Au, cu, r1, r2, r3⟩ := HRL13.out.hc k xk hxk
                obtain rfl := HRL13.out.hA (by rw [HT.out]; omega)
                have sa : wi.cell? ⟨ga, k, none⟩ = some (.slice Au m cu) := by
                  rw [hxm] at r1
                  exact pw_cell_below HB1.out r1
                have hlt' : (k : Int) < (t : Int) := by omega
                have HBO := Lib.hid (HBO.out xk Au cu r3 hxm r2)
                have HFO := Lib.hid (HFO.out xk true hxm hxq)
                clear hxk hxm hxq r1 r2 r3
                go_upto_region 50 with fail
                refine start_ (n := 14) (S := fun w' => w'.cell? ⟨b5, 0, none⟩ = some (.slice O0 m oc0) ∧ w'.cell? ⟨b5, 1, none⟩ = some (.slice O1 q oc1) ∧ w'.cell? ⟨bk, 0, none⟩ = some (.slice Ak r ck) ∧ w'.cell? ⟨ga, k, none⟩ = some (.slice Au m cu)) (ds := []) #[false, false, false, false, false, false, false, false, false, false, false, false, false, false] (by kernel_rfl) rfl rfl ⟨q0, q1, sk, sa⟩ (fun hHeld => ?_)
                refine pure_ (i := 2) (N := some 324) (v := ?_) (a' := ?_) #[false, false, true, false, false, false, false, false, false, false, false, false, false, false] rfl rfl (by kernel_rfl) (fun _ _ _ h => h) (Or.inl ⟨by rfl, ?_⟩) ?_ ?_
                rotate_left
                · intro w'
                  go_simp
                  with_reducible rfl
                rotate_left
                · simp only [Act.put, List.setIfInBounds_toArray, List.set_cons_zero, List.set_cons_succ, i64_w, i32_w]
                  rfl
                refine pure_ (i := 3) (N := some 325) (v := ?_) (a' := ?_) #[false, false, true, true, false, false, false, false, false, false, false, false, false, false] rfl rfl (by kernel_rfl) (fun _ _ _ h => h) (Or.inl ⟨by rfl, ?_⟩) ?_ ?_
                rotate_left
                · intro w'
                  go_simp
                  with_reducible rfl
                rotate_left
                · simp only [Act.put, List.setIfInBounds_toArray, List.set_cons_zero, List.set_cons_succ, i64_w, i32_w]
                  rfl
                refine pure_ (i := 4) (N := some 326) (v := ?_) (a' := ?_) #[false, false, true, true, true, false, false, false, false, false, false, false, false, false] rfl rfl (by kernel_rfl) (fun _ _ _ h => h) (Or.inl ⟨by rfl, ?_⟩) ?_ ?_
                rotate_left
                · intro w'
                  go_simp
                  with_reducible rfl
                rotate_left
                · simp only [Act.put, List.setIfInBounds_toArray, List.set_cons_zero, List.set_cons_succ, i64_w, i32_w]
                  rfl
                refine pure_ (i := 5) (N := some 327) (v := ?_) (a' := ?_) #[false, false, true, true, true, true, false, false, false, false, false, false, false, false] rfl rfl (by kernel_rfl) (fun _ _ _ h => h) (Or.inl ⟨by rfl, ?_⟩) ?_ ?_
                rotate_left
                · intro w'
                  go_simp
                  with_reducible rfl
                rotate_left
                · simp only [Act.put, List.setIfInBounds_toArray, List.set_cons_zero, List.set_cons_succ, i64_w, i32_w]
                  rfl
                refine take_ (i := 0) (N := some 322) (v := ?_) (a' := ?_) #[true, false, true, true, true, true, false, false, false, false, false, false, false, false] rfl rfl (by kernel_rfl) (fun _ _ _ h => h) (Or.inl ⟨by rfl, ?_⟩) hHeld ?_ ?_
                rotate_left
                · rintro w' ⟨s0, s1, s2, s3⟩
                  go_simp
                  with_reducible rfl
                rotate_left
                · simp only [Act.put, List.setIfInBounds_toArray, List.set_cons_zero, List.set_cons_succ, i64_w, i32_w]
                  rfl
                refine take_ (i := 1) (N := some 323) (v := ?_) (a' := ?_) #[true, true, true, true, true, true, false, false, false, false, false, false, false, false] rfl rfl (by kernel_rfl) (fun _ _ _ h => h) (Or.inl ⟨by rfl, ?_⟩) hHeld ?_ ?_
                rotate_left
                · rintro w' ⟨s0, s1, s2, s3⟩
                  go_simp
                  with_reducible rfl
                rotate_left
                · simp only [Act.put, List.setIfInBounds_toArray, List.set_cons_zero, List.set_cons_succ, i64_w, i32_w]
                  rfl
                refine take_ (i := 6) (N := some 328) (v := ?_) (a' := ?_) #[true, true, true, true, true, true, true, false, false, false, false, false, false, false] rfl rfl (by kernel_rfl) (fun _ _ _ h => h) (Or.inl ⟨by rfl, ?_⟩) hHeld ?_ ?_
                rotate_left
                · rintro w' ⟨s0, s1, s2, s3⟩
                  go_simp
                  with_reducible rfl
                rotate_left
                · simp only [Act.put, List.setIfInBounds_toArray, List.set_cons_zero, List.set_cons_succ, i64_w, i32_w]
                  rfl
                refine one_ (i := 7) (N := some 329) #[true, true, true, true, true, true, true, true, false, false, false, false, false, false] rfl rfl (by kernel_rfl) (by decide) (fun K hK => ?_)
                refine goes_ Try.func14 (by kernel_rfl) rfl #[.slice Au m cu] (by rfl) rfl rfl (by simp only [List.map_toArray, List.map_cons, List.map_nil]; rfl) ?_
                with_reducible refine (HBO.out wi.drew HB1.out.drew).mono ?_
                rintro e V7 ⟨A7, c7, g7, o7, rfl, hb7, hr7⟩
                refine ⟨_, rfl, ?_⟩
                have HB7 := Lib.hid (HB1.out.drew.trans (hb7.mono HB1.out.size))
                refine hK.out _ _ ⟨pw_cell_below hb7 q0, pw_cell_below hb7 q1, pw_cell_below hb7 sk, pw_cell_below hb7 sa⟩ (fun hHeld => ?_)
                clear hK K
                refine norm_ (a' := ?_) ?_ ?_
                rotate_left
                · show Act.put _ (some 329) _ = _
                  simp only [Act.put, List.setIfInBounds_toArray, List.set_cons_zero, List.set_cons_succ, i64_w, i32_w]
                  rfl
                refine one_ (i := 8) (N := some 330) #[true, true, true, true, true, true, true, true, true, false, false, false, false, false] rfl rfl (by kernel_rfl) (by decide) (fun K hK => ?_)
                refine goes_ Try.func13 (by kernel_rfl) rfl #[.agg #[.slice O0 m oc0, .slice O1 q oc1], .slice Ak r ck, .int .i64 x, .slice A7 m c7] (by rfl) rfl rfl (by simp only [List.map_toArray, List.map_cons, List.map_nil]; rfl) ?_
                with_reducible refine (HFO.out V7 A7 c7 g7 o7 HB7.out hr7).mono ?_
                rintro e V8 ⟨rfl, hb8⟩
                refine ⟨_, rfl, ?_⟩
                have HB8 := Lib.hid (HB7.out.trans (hb8.mono HB7.out.size))
                refine hK.out _ _ ⟨pw_cell_below hb8 (pw_cell_below hb7 q0), pw_cell_below hb8 (pw_cell_below hb7 q1), pw_cell_below hb8 (pw_cell_below hb7 sk), pw_cell_below hb8 (pw_cell_below hb7 sa)⟩ (fun hHeld => ?_)
                clear hK K
                refine norm_ (a' := ?_) ?_ ?_
                rotate_left
                · show Act.put _ (some 330) _ = _
                  simp only [Act.put, List.setIfInBounds_toArray, List.set_cons_zero, List.set_cons_succ, i64_w, i32_w]
                  rfl
                refine pure_ (i := 9) (N := some 321) (v := ?_) (a' := ?_) #[true, true, true, true, true, true, true, true, true, true, false, false, false, false] rfl rfl (by kernel_rfl) (fun _ _ _ h => h) (Or.inl ⟨by rfl, ?_⟩) ?_ ?_
                rotate_left
                · intro w'
                  go_simp
                  with_reducible rfl
                rotate_left
                · simp only [Act.put, List.setIfInBounds_toArray, List.set_cons_zero, List.set_cons_succ, i64_w, i32_w]
                  rfl
                refine pure_ (i := 10) (N := some 331) (v := ?_) (a' := ?_) #[true, true, true, true, true, true, true, true, true, true, true, false, false, false] rfl rfl (by kernel_rfl) (fun _ _ _ h => h) (Or.inl ⟨by rfl, ?_⟩) ?_ ?_
                rotate_left
                · intro w'
                  go_simp
                  with_reducible rfl
                rotate_left
                · simp only [Act.put, List.setIfInBounds_toArray, List.set_cons_zero, List.set_cons_succ, i64_w, i32_w]
                  rfl
                refine pure_ (i := 11) (N := some 332) (v := ?_) (a' := ?_) #[true, true, true, true, true, true, true, true, true, true, true, true, false, false] rfl rfl (by kernel_rfl) (fun _ _ _ h => h) (Or.inl ⟨by rfl, ?_⟩) ?_ ?_
                rotate_left
                · intro w'
                  go_simp
                  with_reducible rfl
                rotate_left
                · simp only [Act.put, List.setIfInBounds_toArray, List.set_cons_zero, List.set_cons_succ, i64_w, i32_w]
                  rfl
                refine pure_ (i := 12) (N := some 34) (v := ?_) (a' := ?_) #[true, true, true, true, true, true, true, true, true, true, true, true, true, false] rfl rfl (by kernel_rfl) (fun _ _ _ h => h) (Or.inl ⟨by rfl, ?_⟩) ?_ ?_
                rotate_left
                · intro w'
                  go_simp
                  with_reducible rfl
                rotate_left
                · simp only [Act.put, List.setIfInBounds_toArray, List.set_cons_zero, List.set_cons_succ, i64_w, i32_w]
                  rfl
                refine pure_ (i := 13) (N := some 35) (v := ?_) (a' := ?_) #[true, true, true, true, true, true, true, true, true, true, true, true, true, true] rfl rfl (by kernel_rfl) (fun _ _ _ h => h) (Or.inl ⟨by rfl, ?_⟩) ?_ ?_
                rotate_left
                · intro w'
                  go_simp
                  with_reducible rfl
                rotate_left
                · simp only [Act.put, List.setIfInBounds_toArray, List.set_cons_zero, List.set_cons_succ, i64_w, i32_w]
                  rfl
                refine done_ (by kernel_rfl) ?_
                clear q0 q1 sk sa
                go_wp2_with fail
                exact ⟨⟨k + 1, by omega, by simp, HB8⟩, by simp [intOf]; omega⟩
              · as_aux_lemma =>
                obtain rfl : t = k := by omega
                obtain ⟨pn, hpn⟩ : ∃ b, decide (0 < (SF m rs (-3 :: f)).length) = b := ⟨_, rfl⟩
                have HPN := Lib.hid hpn
                have HFX : Hid (∀ W, Below w13.heap.size w13 W → Kd.C (Kd.int .i64) W AF l f) := Lib.hid fun W hW => by
                  obtain ⟨gf, of, h1, h2⟩ := (H13.out.below hW).rd
                  have hl := HL.out
                  subst hl
                  exact RdF_C h1 (by omega)
                clear hpn hk
                go_upto_region 53 with fail
                refine start_ (n := 13) (S := fun w' => w'.cell? ⟨b5, 0, none⟩ = some (.slice O0 m oc0) ∧ w'.cell? ⟨b5, 1, none⟩ = some (.slice O1 q oc1)) (ds := []) #[false, false, false, false, false, false, false, false, false, false, false, false, false] (by kernel_rfl) rfl rfl ⟨q0, q1⟩ (fun hHeld => ?_)
                refine pure_ (i := 2) (N := some 342) (v := ?_) (a' := ?_) #[false, false, true, false, false, false, false, false, false, false, false, false, false] rfl rfl (by kernel_rfl) (fun _ _ _ h => h) (Or.inl ⟨by rfl, ?_⟩) ?_ ?_
                rotate_left
                · intro w'
                  go_simp
                  with_reducible rfl
                rotate_left
                · simp only [Act.put, List.setIfInBounds_toArray, List.set_cons_zero, List.set_cons_succ, i64_w, i32_w]
                  rfl
                refine take_ (i := 0) (N := some 340) (v := ?_) (a' := ?_) #[true, false, true, false, false, false, false, false, false, false, false, false, false] rfl rfl (by kernel_rfl) (fun _ _ _ h => h) (Or.inl ⟨by rfl, ?_⟩) hHeld ?_ ?_
                rotate_left
                · rintro w' ⟨s0, s1⟩
                  go_simp
                  with_reducible rfl
                rotate_left
                · simp only [Act.put, List.setIfInBounds_toArray, List.set_cons_zero, List.set_cons_succ, i64_w, i32_w]
                  rfl
                refine one_ (i := 1) (N := some 341) #[true, true, true, false, false, false, false, false, false, false, false, false, false] rfl rfl (by kernel_rfl) (by decide) (fun K hK => ?_)
                refine value_ (w1 := ?_) (v := ?_) (by rfl) rfl ?_ ?_
                rotate_left 2
                · go_simp
                  constructor
                  · rfl
                  · rfl
                obtain ⟨X1, hX1⟩ : ∃ X, (wi.alloc (.cells #[.int .i64 (-3)] 3)).drew = X := ⟨_, rfl⟩
                rw [hX1]
                have hb1 : Below wi.heap.size wi X1 := by rw [← hX1]; exact ((Below.refl _ wi).alloc (Nat.le_refl _) _).drew
                have ho1 : Kd.R (Kd.int .i64) 3 X1 wi.heap.size (fun b => wi.heap.size ≤ b) (.slice (some ⟨wi.heap.size, 0, none⟩) 1 1) [-3] := by rw [← hX1]; exact Kd.R_of_own ((World.ownsRow_lit (base := wi.heap.size) (e := 3) (size := 1) wi #[.int .i64 (-3)] 1 (Nat.le_refl _) (by decide) rfl).drew) (fun b hb => Nat.le_of_eq (Option.some.inj hb))
                have hzX := hb1.size
                refine hK.out _ _ ⟨pw_cell_below hb1 q0, pw_cell_below hb1 q1⟩ (fun hHeld => ?_)
                clear hK K
                refine norm_ (a' := ?_) ?_ ?_
                rotate_left
                · show Act.put _ (some 341) _ = _
                  simp only [Act.put, List.setIfInBounds_toArray, List.set_cons_zero, List.set_cons_succ, i64_w, i32_w]
                  rfl
                refine one_ (i := 3) (N := some 343) #[true, true, true, true, false, false, false, false, false, false, false, false, false] rfl rfl (by kernel_rfl) (by decide) (fun K hK => ?_)
                refine Kd.R_append_rows_step (Rr := (Kd.int .i64).K X1) (w0 := wi) (Kd.int .i64) wi.heap.size (by rfl) _ _ 27 3 (.int .i64 0) 8 rfl Try.underlying27 info3 rfl (by decide) (by decide) (.slice (some ⟨wi.heap.size, 0, none⟩) 1 1) [-3] f AF l cF (fun b => wi.heap.size ≤ b) (fun _ => False) rfl rfl ho1 (HFX.out X1 (HB1.out.trans (hb1.mono HB1.out.size))) (fun _ _ h => h) (fun _ h => h.elim) (fun b hb => Nat.le_trans hzX hb) hb1 hb1.size (by simp; omega) ?_
                intro v3 X3 ho3 hb3 hg3 hat3
                obtain ⟨A3, c3, rfl, hc3, hC3⟩ := own_formN f v3 HL.out ho3
                have HB3 := Lib.hid (HB1.out.trans (hb3.mono HB1.out.size))
                have HMG := Lib.hid ((H13.out.below HB3.out).mee_not (c' := c3) hC3 HPN.out)
                refine hK.out _ _ ⟨pw_cell_below hb3 q0, pw_cell_below hb3 q1⟩ (fun hHeld => ?_)
                clear hK K
                refine norm_ (a' := ?_) ?_ ?_
                rotate_left
                · show Act.put _ (some 343) _ = _
                  simp only [Act.put, List.setIfInBounds_toArray, List.set_cons_zero, List.set_cons_succ, i64_w, i32_w]
                  rfl
                refine one_ (i := 4) (N := some 344) #[true, true, true, true, true, false, false, false, false, false, false, false, false] rfl rfl (by kernel_rfl) (by decide) (fun K hK => ?_)
                refine value_ (w1 := ?_) (v := ?_) (by rfl) rfl ?_ ?_
                rotate_left 2
                · go_simp
                  constructor
                  · rfl
                  · rfl
                refine hK.out _ _ ⟨cell_alloc (pw_cell_below hb3 q0) _, cell_alloc (pw_cell_below hb3 q1) _⟩ (fun hHeld => ?_)
                clear hK K
                refine norm_ (a' := ?_) ?_ ?_
                rotate_left
                · show Act.put _ (some 344) _ = _
                  simp only [Act.put, List.setIfInBounds_toArray, List.set_cons_zero, List.set_cons_succ, i64_w, i32_w]
                  rfl
                refine one_ (i := 5) (N := some 345) #[true, true, true, true, true, true, false, false, false, false, false, false, false] rfl rfl (by kernel_rfl) (by decide) (fun K hK => ?_)
                refine goes_ Try.func10 (by kernel_rfl) rfl #[.agg #[.slice O0 m oc0, .slice O1 q oc1], .slice (some ⟨X3.heap.size, 0, none⟩) 1 1] (by rfl) rfl rfl (by simp only [List.map_toArray, List.map_cons, List.map_nil]; rfl) ?_
                with_reducible refine (HMG.out).mono ?_
                rintro e V5 ⟨A5, l5, c5, rfl, hb5, hx5⟩
                refine ⟨_, rfl, ?_⟩
                have HB5 := Lib.hid (HB3.out.trans (hb5.mono HB3.out.size))
                have HX5 := Lib.hid hx5
                refine hK.out _ _ ⟨pw_cell_below hb5 (pw_cell_below hb3 q0), pw_cell_below hb5 (pw_cell_below hb3 q1)⟩ (fun hHeld => ?_)
                clear hK K
                refine norm_ (a' := ?_) ?_ ?_
                rotate_left
                · show Act.put _ (some 345) _ = _
                  simp only [Act.put, List.setIfInBounds_toArray, List.set_cons_zero, List.set_cons_succ, i64_w, i32_w]
                  rfl
                refine pure_ (i := 6) (N := some 339) (v := ?_) (a' := ?_) #[true, true, true, true, true, true, true, false, false, false, false, false, false] rfl rfl (by kernel_rfl) (fun _ _ _ h => h) (Or.inl ⟨by rfl, ?_⟩) ?_ ?_
                rotate_left
                · intro w'
                  go_simp
                  with_reducible rfl
                rotate_left
                · simp only [Act.put, List.setIfInBounds_toArray, List.set_cons_zero, List.set_cons_succ, i64_w, i32_w]
                  rfl
                refine pure_ (i := 7) (N := some 346) (v := ?_) (a' := ?_) #[true, true, true, true, true, true, true, true, false, false, false, false, false] rfl rfl (by kernel_rfl) (fun _ _ _ h => h) (Or.inl ⟨by rfl, ?_⟩) ?_ ?_
                rotate_left
                · intro w'
                  go_simp
                  with_reducible rfl
                rotate_left
                · simp only [Act.put, List.setIfInBounds_toArray, List.set_cons_zero, List.set_cons_succ, i64_w, i32_w]
                  rfl
                refine pure_ (i := 8) (N := some 347) (v := ?_) (a' := ?_) #[true, true, true, true, true, true, true, true, true, false, false, false, false] rfl rfl (by kernel_rfl) (fun _ _ _ h => h) (Or.inl ⟨by rfl, ?_⟩) ?_ ?_
                rotate_left
                · intro w'
                  go_simp
                  with_reducible rfl
                rotate_left
                · simp only [Act.put, List.setIfInBounds_toArray, List.set_cons_zero, List.set_cons_succ, i64_w, i32_w]
                  rfl
                refine pure_ (i := 9) (N := some 348) (v := ?_) (a' := ?_) #[true, true, true, true, true, true, true, true, true, true, false, false, false] rfl rfl (by kernel_rfl) (fun _ _ _ h => h) (Or.inl ⟨by rfl, ?_⟩) ?_ ?_
                rotate_left
                · intro w'
                  go_simp
                  with_reducible rfl
                rotate_left
                · simp only [Act.put, List.setIfInBounds_toArray, List.set_cons_zero, List.set_cons_succ, i64_w, i32_w]
                  rfl
                refine pure_ (i := 10) (N := some 36) (v := ?_) (a' := ?_) #[true, true, true, true, true, true, true, true, true, true, true, false, false] rfl rfl (by kernel_rfl) (fun _ _ _ h => h) (Or.inl ⟨by rfl, ?_⟩) ?_ ?_
                rotate_left
                · intro w'
                  go_simp
                  with_reducible rfl
                rotate_left
                · simp only [Act.put, List.setIfInBounds_toArray, List.set_cons_zero, List.set_cons_succ, i64_w, i32_w]
                  rfl
                refine pure_ (i := 11) (N := some 16) (v := ?_) (a' := ?_) #[true, true, true, true, true, true, true, true, true, true, true, true, false] rfl rfl (by kernel_rfl) (fun _ _ _ h => h) (Or.inl ⟨by rfl, ?_⟩) ?_ ?_
                rotate_left
                · intro w'
                  go_simp
                  with_reducible rfl
                rotate_left
                · simp only [Act.put, List.setIfInBounds_toArray, List.set_cons_zero, List.set_cons_succ, i64_w, i32_w]
                  rfl
                refine pure_ (i := 12) (N := some 9) (v := ?_) (a' := ?_) #[true, true, true, true, true, true, true, true, true, true, true, true, true] rfl rfl (by kernel_rfl) (fun _ _ _ h => h) (Or.inl ⟨by rfl, ?_⟩) ?_ ?_
                rotate_left
                · intro w'
                  go_simp
                  with_reducible rfl
                rotate_left
                · simp only [Act.put, List.setIfInBounds_toArray, List.set_cons_zero, List.set_cons_succ, i64_w, i32_w]
                  rfl
                refine done_ (by kernel_rfl) ?_
                clear q0 q1 sk
                have q0 := (H13.out.below HB5.out).q0
                have q1 := (H13.out.below HB5.out).q1
                have sk : V5.cell? ⟨bk, 0, none⟩ = some (.slice Ak r ck) := (blk_cell' ((HB5.out.block _ (blk_lt' KB13.out)).trans KB13.out) 0).trans rfl
                cases pn
                · go_wp2_with fail
                  refine (HCT.out _).mono ?_
                  rintro e wz ⟨rfl, hbz⟩
                  have HBZ := Lib.hid (HB13.out.trans ((HB5.out.trans (hbz.mono HB5.out.size)).mono HB13.out.size))
                  clear hbz
                  go_wp2_with fail
                  go_ret
                  exact ⟨rfl, HBZ.out⟩
                · obtain ⟨xo, go, o1, o2, o3, o4, o5⟩ := HX5.out rfl
                  obtain rfl : m = l5 := o3.symm
                  subst o4
                  have HFO := Lib.hid (HFO.out xo false o2 o1 V5 _ c5 go 0 HB5.out o5)
                  clear o1 o2 o5
                  go_wp2_with fail
                  refine HFO.out.mono ?_
                  rintro e wy' ⟨rfl, hby⟩
                  have HBY := Lib.hid (HB5.out.trans (hby.mono HB5.out.size))
                  clear hby
                  go_wp2_with fail
                  refine (HCT.out _).mono ?_
                  rintro e wz ⟨rfl, hbz⟩
                  have HBZ := Lib.hid (HB13.out.trans ((HBY.out.trans (hbz.mono HBY.out.size)).mono HB13.out.size))
                  clear hbz
                  go_wp2_with fail
                  go_ret
                  exact ⟨rfl, HBZ.out⟩
end Go.Proofs.Ytiglkpgoakibaaa
