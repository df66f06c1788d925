/- All of some formulas (all): the walk. Conditions: the forest lies there, the formulas are valid and lie below it. -/
import Derived.Test.YtiglkpgoakibaaaGrow
namespace Go.Proofs.Ytiglkpgoakibaaa
open Go.RowKit Go.Maps PTopKnots Go.Proofs.YtiglkpgoakibaaaW.PrintWords
set_option linter.unusedVariables false
set_option linter.unusedSimpArgs false

/-- Formulas that are read, below a bound. -/
structure RdFs (w : World) (B : Nat) (A : Option Addr) (g off : Nat) (fs : List (List Int)) : Prop where
  hA : 0 < fs.length → A = some ⟨g, off, none⟩
  hg : 0 < fs.length → g < B
  hc : ∀ j f, fs[j]? = some f → ∃ A' g' off' cap', w.cell? ⟨g, off + j, none⟩ = some (.slice A' f.length cap') ∧ RdF w A' g' off' f ∧ (0 < f.length → g' < B)
theorem RdF.below {w w' : World} {B : Nat} {A : Option Addr} {g off : Nat} {f : List Int} (h : RdF w A g off f) (hb : Below B w w') (hg : 0 < f.length → g < B) : RdF w' A g off f :=
  ⟨h.hA, fun j x hx => (World.cell?_of_block (hb.block _ (hg (Nat.lt_of_le_of_lt (Nat.zero_le _) (List.getElem?_eq_some_iff.1 hx).1)))).trans (h.hc j x hx)⟩
theorem RdFs.below {w w' : World} {B : Nat} {A : Option Addr} {g off : Nat} {fs : List (List Int)} (h : RdFs w B A g off fs) (hb : Below B w w') : RdFs w' B A g off fs :=
  ⟨h.hA, h.hg, fun j f hf => by
    obtain ⟨A', g', off', cap', h1, h2, h3⟩ := h.hc j f hf
    exact ⟨A', g', off', cap', (World.cell?_of_block (hb.block _ (h.hg (Nat.lt_of_le_of_lt (Nat.zero_le _) (List.getElem?_eq_some_iff.1 hf).1)))).trans h1, h2.below hb h3, h3⟩⟩
/-- The forest lies above a bound. -/
structure Abv (F : Fb) (B : Nat) : Prop where
  p : B ≤ F.p
  kb : B ≤ F.kb
  mb : B ≤ F.mb
  jb : B ≤ F.jb
theorem Abv.apt {F : Fb} {B g : Nat} (h : Abv F B) (hg : g < B) : Apt F g := ⟨by have := h.p; omega, by have := h.kb; omega, by have := h.mb; omega, by have := h.jb; omega⟩
theorem Stp.abv {w w' : World} {F F' : Fb} {K K' : List Kn} (h : Stp w F K w' F' K') {B : Nat} (ha : Abv F B) (hB : B ≤ w.heap.size) : Abv F' B :=
  ⟨by rw [h.p]; exact ha.p, by rcases h.kb with e | e; · rw [e]; exact ha.kb
                               · omega, by rw [h.mb]; exact ha.mb, by rw [h.jb]; exact ha.jb⟩
theorem Stp.bel {w w' : World} {F F' : Fb} {K K' : List Kn} (h : Stp w F K w' F' K') {B : Nat} (ha : Abv F B) (hB : B ≤ w.heap.size) : Below B w w' := h.below hB ha.p ha.kb ha.mb ha.jb
theorem cell_two (w : World) (a b : Nat) : RdN (w.alloc (.cells #[.int .i64 (a : Nat), .int .i64 (b : Nat)] 3)) (some ⟨w.heap.size, 0, none⟩) w.heap.size 0 [a, b] := by
  have h : (w.alloc (.cells #[.int .i64 (a : Nat), .int .i64 (b : Nat)] 3)).heap[w.heap.size]? = some (.cells #[.int .i64 (a : Nat), .int .i64 (b : Nat)] 3 (0, 0)) := allocNew _ _ _ rfl
  refine ⟨fun _ => rfl, fun j x hx => ?_⟩
  rw [Nat.zero_add]
  match j, hx with
  | 0, hx => cases hx; exact (blk_cell' h 0).trans rfl
  | 1, hx => cases hx; exact (blk_cell' h 1).trans rfl
  | j + 2, hx => simp at hx

theorem take_getF {xs : List (List Int)} {k : Nat} {x : List Int} (h : xs[k]? = some x) : xs.take (k + 1) = xs.take k ++ [x] := by
  rw [List.take_add_one, h]; rfl
/-- What some formulas say. -/
def asem (fs : List (List Int)) (v : Nat → Bool) : Bool := fs.all fun f => fsem f v
set_option maxRecDepth 100000 in
set_option maxHeartbeats 1000000 in
theorem all_any {N c B : Nat} {w : World} {F : Fb} {Ks : List Kn} (hN : N ≤ 40) (hf : Fo w F N Ks c) {A : Option Addr} {g off cap : Nat} {fs : List (List Int)} (hv : ∀ f ∈ fs, Vd N f) (hl : fs.length ≤ 1000) (hr : RdFs w B A g off fs) (hB : B ≤ w.heap.size) (ha : Abv F B)
    (hc : c + fs.length * (102 * (costJ N + 1)) ≤ 1073741824) :
    Calls Try.prog 24 #[.pointer (some ⟨F.p, 0, none⟩), .slice A fs.length cap] w (KnPost N (c + fs.length * (102 * (costJ N + 1))) Ks w F (asem fs)) := by
  obtain ⟨C, hC⟩ : ∃ C, costJ N = C := ⟨_, rfl⟩
  rw [hC] at hc ⊢
  obtain ⟨m, hm⟩ : ∃ m, fs.length = m := ⟨_, rfl⟩
  rw [hm] at hc hl ⊢
  have HC := Lib.hid hC
  have HM := Lib.hid hm
  have HF := Lib.hid hf
  have HR := Lib.hid hr
  have HV := Lib.hid hv
  have HA := Lib.hid ha
  clear hf hr hv hC hm ha
  go_enter Try.func24, Try.ntmps24
  go_wp2_with fail
  go_loopw [5, 10] (fun t i wr => ∃ (k n : Nat) (F' : Fb) (K' : List Kn), k ≤ m ∧ i = .int .i64 k ∧ t = .int .i64 n ∧ Hid (Fo wr F' N K' (c + k * (102 * (C + 1)))) ∧ Hid (Stp w F Ks wr F' K') ∧ n < K'.length ∧ Hid (∀ v, ev K' n v = asem (fs.take k) v)) (fun _ i _ => m - (intOf i).toNat)
  case atStart => exact ⟨0, 1, F, Ks, Nat.zero_le _, rfl, rfl, Lib.hid (by rw [Nat.zero_mul]; exact HF.out), Stp.refl w F Ks, by have := HF.out.wf.two; omega, fun v => by rw [ev_1]; rfl⟩
  case round =>
    obtain ⟨k, n, F', K', hk, rfl, rfl, HFk, HSk, hn, HEk⟩ := hrel
    obtain ⟨wa, rfl⟩ : ∃ wa : World, wa = wr := ⟨_, rfl⟩
    by_cases hlt : k < m
    · obtain ⟨f, hfk⟩ : ∃ x, fs[k]? = some x := ⟨_, List.getElem?_eq_getElem (by rw [HM.out]; exact hlt)⟩
      have hfv := HV.out f (List.mem_of_getElem? hfk)
      obtain rfl := HR.out.hA (by rw [HM.out]; omega)
      have HB : Hid (Below B w wa) := Lib.hid (HSk.out.bel HA.out hB)
      obtain ⟨A', g', off', cap', r1, r2, r3⟩ := (HR.out.below HB.out).hc k f hfk
      have hf0 : 0 < f.length := by
        rcases Nat.eq_zero_or_pos f.length with h | h
        · have h1 := hfv.one
          rw [List.eq_nil_of_length_eq_zero h] at h1
          cases h1
        · exact h
      have r3 := r3 hf0
      have hz := HSk.out.size
      have hAa : Abv F' B := HSk.out.abv HA.out hB
      have hmul : c + k * (102 * (C + 1)) + 102 * (C + 1) ≤ 1073741824 := by
        have : (k + 1) * (102 * (C + 1)) ≤ m * (102 * (C + 1)) := Nat.mul_le_mul_right _ hlt
        rw [Nat.add_mul k, Nat.one_mul] at this
        omega
      obtain ⟨cc, hcc⟩ : ∃ cc, c + k * (102 * (C + 1)) = cc := ⟨_, rfl⟩
      have hcc2 : c + (k + 1) * (102 * (C + 1)) = cc + 102 * (C + 1) := by rw [Nat.add_mul k, Nat.one_mul, ← hcc, Nat.add_assoc]
      rw [hcc] at hmul HFk
      have hfl : f.length * (C + 1) ≤ 100 * (C + 1) := Nat.mul_le_mul_right _ hfv.len
      have HXK := Lib.hid hfk
      have HP : Hid (F'.p = F.p) := HSk.out.p
      have HJ : Hid (Calls Try.prog 20 #[.pointer (some ⟨F.p, 0, none⟩), .slice A' f.length cap'] wa (KnPost N (cc + 100 * (C + 1)) K' wa F' (fsem f))) := by
        have h := grow_any (cap := cap') hN HFk.out hfv r2 (by omega) (hAa.apt r3) (by rw [HC.out]; omega)
        rw [HP.out, HC.out] at h
        exact Lib.hid (h.mono fun e w' h => h.more (by omega) fun _ => rfl)
      have HCC2 := Lib.hid hcc2
      clear hfk hcc hcc2 hfl hfv r2 hf0 hAa
      go_wp2_with fail
      refine HJ.out.mono ?_
      rintro e w1 ⟨n', F1, K1, rfl, h1, h2, h3, h4⟩
      have H1 := Lib.hid h1
      have H2 := Lib.hid h2
      have H4 := Lib.hid h4
      have hB1 : Below w1.heap.size w1 (w1.alloc (.cells #[.int .i64 (n : Nat), .int .i64 (n' : Nat)] 3)) := (Below.refl _ w1).alloc (Nat.le_refl _) _
      have HFo := Lib.hid (h1.below hB1)
      have hn1 : n < K1.length := Nat.lt_of_lt_of_le hn h2.ext.len
      have HP1 : Hid (F1.p = F.p) := Lib.hid (h2.p.trans HP.out)
      have HAND : Hid (Calls Try.prog 19 #[.pointer (some ⟨F.p, 0, none⟩), .slice (some ⟨w1.heap.size, 0, none⟩) 2 2] (w1.alloc (.cells #[.int .i64 (n : Nat), .int .i64 (n' : Nat)] 3)) (KnPost N (cc + 102 * (C + 1)) K1 (w1.alloc (.cells #[.int .i64 (n : Nat), .int .i64 (n' : Nat)] 3)) F1 fun v => [n, n'].all fun x => ev K1 x v)) := by
        have h := and_any (cap := 2) (xs := [n, n']) hN HFo.out (by intro x hx; simp at hx; rcases hx with h | h <;> (subst h; assumption)) (by simp) (cell_two w1 n n') (by simp) (h1.apt (Nat.le_refl _)) (by rw [HC.out]; simp; omega)
        rw [HP1.out, HC.out] at h
        exact Lib.hid (h.mono fun e w' h => h.more (by simp; omega) fun _ => rfl)
      have HS1 := Lib.hid (HSk.out.trans (h2.trans (Stp.of_below F1 K1 hB1)))
      clear h1 h2 h4 r1 hB1 HJ
      go_wp2_with fail
      refine HAND.out.mono ?_
      rintro e w2 ⟨n2, F2, K2, rfl, h1, h2, h5, h4⟩
      have H12 := Lib.hid h1
      have H22 := Lib.hid h2
      have H42 := Lib.hid h4
      clear h1 h2 h4
      go_wp2_with fail
      refine ⟨⟨k + 1, n2, F2, K2, by omega, by simp, rfl, Lib.hid (by rw [HCC2.out]; exact H12.out), Lib.hid (HS1.out.trans H22.out), h5, Lib.hid (fun v => ?_)⟩, by simp [intOf]; omega⟩
      have := H42.out v
      simp only [List.all_cons, List.all_nil, Bool.and_true] at this
      rw [this, H4.out v, ev_ext HFk.out.wf H1.out.wf H2.out.ext v n hn, HEk.out v, take_getF HXK.out]
      unfold asem
      rw [List.all_append]
      simp
    · obtain rfl : m = k := by omega
      have hfin : KnPost N (c + m * (102 * (C + 1))) Ks w F (asem fs) (.returned (.int .i64 n)) wa := ⟨n, F', K', rfl, HFk.out, HSk.out, hn, fun v => by rw [HEk.out v, List.take_of_length_le (by rw [HM.out]; exact Nat.le_refl _)]⟩
      have HFIN := Lib.hid hfin
      clear hfin hk
      go_wp2_with fail
      go_ret
      exact HFIN.out
end Go.Proofs.Ytiglkpgoakibaaa
