/- The variants are counted (Count), the example of the chapter is counted (counts): the walks. Condition: the model and the formula are good and are read. The diagram (Diagram), the list (List): the walks. Condition: the model and the formula are good and are read. The first variant in which formulas hold (Meets): the walk. Condition: the model and the formulas are good and are read. -/
import Derived.Test.YtiglkpgoakibaaaChecks
import Derived.Test.YtiglkpgoakibaaaCount
import Derived.Test.YtiglkpgoakibaaaSat
import Derived.Test.YtiglkpgoakibaaaKnots
import Derived.Test.YtiglkpgoakibaaaList
import Derived.Test.YtiglkpgoakibaaaFirst
namespace Go.Proofs.Ytiglkpgoakibaaa
open Go.RowKit Go.Maps PTopKnots Go.Proofs.YtiglkpgoakibaaaW.PrintWords
set_option linter.unusedVariables false
set_option linter.unusedSimpArgs false

/-- What is asked of a variant: the rules and the formula. -/
def qsem (rs : List (List Int)) (f : List Int) (v : Nat → Bool) : Bool := asem rs v && fsem f v
/-- The variants that are asked for. -/
def SF (N : Nat) (rs : List (List Int)) (f : List Int) : List (List Bool) := (allv N []).filter fun x => qsem rs f (vf x)
theorem one_F {w : World} {A : Option Addr} {g off cap : Nat} {f : List Int} (hr : RdF w A g off f) (hg : 0 < f.length → g < w.heap.size) :
    RdFs (w.alloc (.cells #[.slice A f.length cap] 27)) (w.heap.size + 1) (some ⟨w.heap.size, 0, none⟩) w.heap.size 0 [f] := by
  have h : (w.alloc (.cells #[.slice A f.length cap] 27)).heap[w.heap.size]? = some (.cells #[.slice A f.length cap] 27 (0, 0)) := allocNew _ _ _ rfl
  refine ⟨fun _ => rfl, fun _ => by omega, fun j x hx => ?_⟩
  have hj := (List.getElem?_eq_some_iff.1 hx).1
  simp at hj
  subst hj
  simp at hx
  subst hx
  exact ⟨A, g, off, cap, (blk_cell' h 0).trans rfl, hr.below ((Below.refl _ w).alloc (Nat.le_refl _) _) hg, fun h0 => by have := hg h0; omega⟩
theorem Vd.pos {N : Nat} {f : List Int} (h : Vd N f) : 0 < f.length := by
  rcases Nat.eq_zero_or_pos f.length with h0 | h0
  · have h1 := h.one
    rw [List.eq_nil_of_length_eq_zero h0] at h1
    cases h1
  · exact h0
theorem cost_grow {N l : Nat} (h : N ≤ 10) (hl : l ≤ 100) : l * (costJ N + 1) ≤ 204700 := by
  have h1 := costJ_10 h
  have h3 := Nat.mul_le_mul hl (show costJ N + 1 ≤ 2047 by omega)
  omega
/-- The two calls behind begin: the formula is grown and joined with the rules. -/
theorem grow_two {w : World} {F : Fb} {N B n g off cap : Nat} {A : Option Addr} {Ks : List Kn} {rs : List (List Int)} {f : List Int} (hN : N ≤ 10) (hf : Fo w F N Ks 2100000) (ha : Abv F B) (hB : B ≤ w.heap.size) (hn : n < Ks.length) (he : ∀ v, ev Ks n v = asem rs v)
    (hv : Vd N f) (hr : RdF w A g off f) (hg : g < B) :
    Calls Try.prog 20 #[.pointer (some ⟨F.p, 0, none⟩), .slice A f.length cap] w fun e w1 => ∃ n1 : Nat, e = .returned (.int .i64 n1) ∧ Below B w w1 ∧
      Calls Try.prog 19 #[.pointer (some ⟨F.p, 0, none⟩), .slice (some ⟨w1.heap.size, 0, none⟩) 2 2] (w1.alloc (.cells #[.int .i64 (n : Nat), .int .i64 (n1 : Nat)] 3)) fun e2 w2 => ∃ (n2 : Nat) (F2 : Fb) (K2 : List Kn), e2 = .returned (.int .i64 n2) ∧ F2.p = F.p ∧ Fo w2 F2 N K2 2400000 ∧ Abv F2 B ∧ Below B w w2 ∧ n2 < K2.length ∧ ∀ v, ev K2 n2 v = qsem rs f v := by
  have h10 := costJ_10 hN
  have hcg := cost_grow hN hv.len
  refine (grow_any (cap := cap) (by omega) hf hv hr (by omega) (ha.apt hg) (by omega)).mono ?_
  rintro e w1 ⟨n1, F1, K1, rfl, h1, h2, h3, h4⟩
  have hz := h2.size
  have hB1 : Below w1.heap.size w1 (w1.alloc (.cells #[.int .i64 (n : Nat), .int .i64 (n1 : Nat)] 3)) := (Below.refl _ w1).alloc (Nat.le_refl _) _
  have hn1 : n < K1.length := Nat.lt_of_lt_of_le hn h2.ext.len
  have ha1 := h2.abv ha hB
  refine ⟨n1, rfl, h2.bel ha hB, ?_⟩
  have h := and_any (cap := 2) (xs := [n, n1]) (by omega) (h1.below hB1) (by intro x hx; simp at hx; rcases hx with h | h <;> (subst h; assumption)) (by simp) (cell_two w1 n n1) (by simp) (h1.apt (Nat.le_refl _)) (by simp; omega)
  rw [h2.p] at h
  refine h.mono ?_
  rintro e2 w2 ⟨n2, F2, K2, rfl, k1, k2, k3, k4⟩
  refine ⟨n2, F2, K2, rfl, k2.p.trans h2.p, k1.more (by simp; omega), k2.abv ha1 (by simp; omega), ?_, k3, fun v => ?_⟩
  · exact (h2.bel ha hB).trans ((hB1.mono (by omega)).trans (k2.bel ha1 (by simp; omega)))
  · rw [k4 v]
    unfold qsem
    simp only [List.all_cons, List.all_nil, Bool.and_true]
    rw [h4 v, ev_ext hf.wf h1.wf h2.ext v n hn, he v]
attribute [local go_sem] run_mm
theorem Below.of_grown {w w' : World} {mb B : Nat} (h : w.grownBy w' (some mb)) (hB : B ≤ w.heap.size) (hm : B ≤ mb) : Below B w w' := ⟨h.os, h.tape, h.output, h.size, fun b hb => h.block b (by omega) (fun e => by have := Option.some.inj e; omega)⟩
set_option maxRecDepth 100000 in
theorem cnt_any {w : World} {B c0 g off c1 gf of cf : Nat} {A0 A1 Af : Option Addr} {ns : List ByteArray} {rs : List (List Int)} {f : List Int} (hM : Mo w B A0 c0 A1 g off c1 ns rs)
    (hv : Vd ns.length f) (hr : RdF w Af gf of f) (hg : gf < w.heap.size) :
    Calls Try.prog 7 #[.agg #[.slice A0 ns.length c0, .slice A1 rs.length c1], .slice Af f.length cf] w fun e w' => e = .returned (.tuple #[.int .i64 ((SF ns.length rs f).length : Nat), .int .i64 0]) ∧ Below w.heap.size w w' := by
  obtain ⟨m, hm⟩ : ∃ m, ns.length = m := ⟨_, rfl⟩
  obtain ⟨q, hq⟩ : ∃ q, rs.length = q := ⟨_, rfl⟩
  obtain ⟨l, hfl⟩ : ∃ l, f.length = l := ⟨_, rfl⟩
  obtain ⟨w1, hw1⟩ : ∃ w1, w.alloc (.cells #[.slice A0 m c0, .slice A1 q c1] 25) = w1 := ⟨_, rfl⟩
  have hB1 : Below w.heap.size w w1 := by rw [← hw1]; exact (Below.refl _ w).alloc (Nat.le_refl _) _
  have k0 : w1.heap[w.heap.size]? = some (.cells #[.slice A0 m c0, .slice A1 q c1] 25 (0, 0)) := by rw [← hw1]; exact allocNew _ _ _ rfl
  have p0 : w1.cell? ⟨w.heap.size, 0, none⟩ = some (.slice A0 m c0) := (blk_cell' k0 0).trans rfl
  have p1 : w1.cell? ⟨w.heap.size, 1, none⟩ = some (.slice A1 q c1) := (blk_cell' k0 1).trans rfl
  obtain ⟨w2, hw2⟩ : ∃ w2, w1.alloc (.cells #[.slice Af l cf] 27) = w2 := ⟨_, rfl⟩
  have hB2 : Below w1.heap.size w1 w2 := by rw [← hw2]; exact (Below.refl _ w1).alloc (Nat.le_refl _) _
  have hB02 : Below w.heap.size w w2 := hB1.trans (hB2.mono hB1.size)
  have HJ : Hid (Calls Try.prog 17 #[.agg #[.slice A0 m c0, .slice A1 q c1], .slice (some ⟨w1.heap.size, 0, none⟩) 1 1] w2 (BegPost w2 m rs)) := by
    have h1 := one_F (cap := cf) (hr.below hB1 (fun _ => hg)) (fun _ => by have := hB1.size; omega)
    rw [hfl, hw2] at h1
    have h := begin_any (c2 := 1) (hM.below hB02) (fs := [f]) (by intro x hx; simp at hx; rw [hx]; exact hv) h1 (by rw [← hw2]; simp) (by simp)
    rw [hm, hq] at h
    exact Lib.hid h
  have HM := Lib.hid hM
  have HB2 := Lib.hid hB02
  have HN := Lib.hid hm
  have HV := Lib.hid hv
  have HR := Lib.hid hr
  have HFL := Lib.hid hfl
  have HGF := Lib.hid hg
  rw [hm, hq, hfl]
  clear hM hv hr hB1 hB2 hB02 k0 hm hq hfl hg
  go_enter Try.func7, Try.ntmps7
  go_wp2_with fail
  refine HJ.out.mono ?_
  rintro e w3 ⟨n, F, Ks, rfl, h1, h2, h3, h4, h5⟩
  have hB3 : Below w.heap.size w w3 := HB2.out.trans (h3.mono HB2.out.size)
  have HG := Lib.hid (grow_two (cap := cf) (B := w.heap.size) (by rw [← HN.out]; exact HM.out.n10) h1 (h2.mono HB2.out.size) hB3.size h4 h5 (by rw [← HN.out]; exact HV.out) (HR.out.below hB3 (fun _ => HGF.out)) HGF.out)
  rw [HFL.out] at HG
  have HB3 := Lib.hid hB3
  clear h1 h2 h3 h4 h5 hB3
  go_wp2_with fail
  refine HG.out.mono ?_
  rintro e w4 ⟨n1, rfl, h6, h7⟩
  have HAND := Lib.hid h7
  clear h6 h7
  go_wp2_with fail
  refine HAND.out.mono ?_
  rintro e w5 ⟨n2, F2, K2, rfl, hp, h1, h2, h3, h4, h5⟩
  have hb5 : Below w5.heap.size w5 (w5.alloc (.map #[] 0)) := (Below.refl _ w5).alloc (Nat.le_refl _) _
  have HCNT : Hid (Calls Try.prog 18 #[.pointer (some ⟨F.p, 0, none⟩), .int .i64 n2, .int .i64 0, .map (some w5.heap.size)] (w5.alloc (.map #[] 0)) fun e w' => e = .returned (.int .i64 ((SF m rs f).length : Nat)) ∧ Below w.heap.size w w') := by
    have h10 : m ≤ 10 := by rw [← HN.out]; exact HM.out.n10
    have hcj : costJ (m + 1) ≤ 4094 := Nat.le_trans (costJ_mono (show m + 1 ≤ 11 by omega)) (by decide)
    have h := count_any (N := m) (by omega) m (w5.alloc (.map #[] 0)) F2 K2 2400000 w5.heap.size 0 n2 0 (h1.below hb5) (by omega) (h1.apt (Nat.le_refl _)) (Sound.made w5 3 _) (by omega) h4 (by omega) (Nat.zero_le _)
    rw [hp] at h
    refine Lib.hid (h.mono ?_)
    rintro e w' ⟨rfl, _, hg⟩
    refine ⟨?_, (HB3.out.trans h3).trans ((hb5.mono (HB3.out.trans h3).size).trans (Below.of_grown hg (by have := (HB3.out.trans h3).size; simp; omega) (HB3.out.trans h3).size))⟩
    rw [Nat.sub_zero, cnt_sem h1.wf h4 h5]
    rfl
  clear h1 h2 h3 h4 h5 hb5 hp
  go_wp2_with fail
  refine HCNT.out.mono ?_
  rintro e w6 ⟨rfl, h6⟩
  have H6 := Lib.hid h6
  clear h6
  go_wp2_with fail
  go_ret2
  exact ⟨rfl, H6.out⟩
end Go.Proofs.Ytiglkpgoakibaaa
namespace Go.Proofs.Ytiglkpgoakibaaa
open Go.RowKit Go.Maps PTopKnots Go.Proofs.YtiglkpgoakibaaaW.PrintWords
set_option linter.unusedVariables false
set_option linter.unusedSimpArgs false

/-- What Diagram leaves: the knots R, which stand for the nodes idx of a forest Ks; the root stands for n. -/
structure Dg (N : Nat) (rs : List (List Int)) (f : List Int) (Ks : List Kn) (n : Nat) (idx : List Nat) (R : List Kr) (x : Int) : Prop where
  wf : WF N Ks
  lt : n < Ks.length
  rk : Rk Ks idx R
  en : En idx x n
  len : R.length ≤ 2000
  sem : ∀ v, ev Ks n v = qsem rs f v
def DiaPost (w : World) (N : Nat) (rs : List (List Int)) (f : List Int) (e : Ending) (w' : World) : Prop :=
  ∃ (Ks : List Kn) (n : Nat) (idx : List Nat) (R : List Kr) (x : Int) (v : Value), e = .returned (.tuple #[v, .int .i64 x, .int .i64 0]) ∧ Below w.heap.size w w' ∧ w'.ownsRow w.heap.size 44 3 v R.length (R.flatMap rcl) ∧ Dg N rs f Ks n idx R x
theorem wcost_mono {a b : Nat} (h : a ≤ b) : wcost a ≤ wcost b := by
  induction b with
  | zero => rw [show a = 0 by omega]; exact Nat.le_refl _
  | succ b ih =>
    rcases Nat.lt_or_ge a (b + 1) with h' | h'
    · have := ih (by omega)
      simp only [wcost]
      omega
    · rw [show a = b + 1 by omega]
      exact Nat.le_refl _
theorem wcost_10 {N : Nat} (h : N ≤ 10) : wcost N ≤ 1023 := Nat.le_trans (wcost_mono h) (by decide)
set_option maxRecDepth 100000 in
theorem dia_any {w : World} {B c0 g off c1 gf of cf : Nat} {A0 A1 Af : Option Addr} {ns : List ByteArray} {rs : List (List Int)} {f : List Int} (hM : Mo w B A0 c0 A1 g off c1 ns rs)
    (hv : Vd ns.length f) (hr : RdF w Af gf of f) (hg : gf < w.heap.size) :
    Calls Try.prog 8 #[.agg #[.slice A0 ns.length c0, .slice A1 rs.length c1], .slice Af f.length cf] w (DiaPost w ns.length rs f) := by
  obtain ⟨m, hm⟩ : ∃ m, ns.length = m := ⟨_, rfl⟩
  obtain ⟨q, hq⟩ : ∃ q, rs.length = q := ⟨_, rfl⟩
  obtain ⟨l, hfl⟩ : ∃ l, f.length = l := ⟨_, rfl⟩
  obtain ⟨w1, hw1⟩ : ∃ w1, w.alloc (.cells #[.slice A0 m c0, .slice A1 q c1] 25) = w1 := ⟨_, rfl⟩
  have hB1 : Below w.heap.size w w1 := by rw [← hw1]; exact (Below.refl _ w).alloc (Nat.le_refl _) _
  have k0 : w1.heap[w.heap.size]? = some (.cells #[.slice A0 m c0, .slice A1 q c1] 25 (0, 0)) := by rw [← hw1]; exact allocNew _ _ _ rfl
  have p0 : w1.cell? ⟨w.heap.size, 0, none⟩ = some (.slice A0 m c0) := (blk_cell' k0 0).trans rfl
  have p1 : w1.cell? ⟨w.heap.size, 1, none⟩ = some (.slice A1 q c1) := (blk_cell' k0 1).trans rfl
  obtain ⟨w2, hw2⟩ : ∃ w2, w1.alloc (.cells #[.slice Af l cf] 27) = w2 := ⟨_, rfl⟩
  have hB2 : Below w1.heap.size w1 w2 := by rw [← hw2]; exact (Below.refl _ w1).alloc (Nat.le_refl _) _
  have hB02 : Below w.heap.size w w2 := hB1.trans (hB2.mono hB1.size)
  have HJ : Hid (Calls Try.prog 17 #[.agg #[.slice A0 m c0, .slice A1 q c1], .slice (some ⟨w1.heap.size, 0, none⟩) 1 1] w2 (BegPost w2 m rs)) := by
    have h1 := one_F (cap := cf) (hr.below hB1 (fun _ => hg)) (fun _ => by have := hB1.size; omega)
    rw [hfl, hw2] at h1
    have h := begin_any (c2 := 1) (hM.below hB02) (fs := [f]) (by intro x hx; simp at hx; rw [hx]; exact hv) h1 (by rw [← hw2]; simp) (by simp)
    rw [hm, hq] at h
    exact Lib.hid h
  have HM := Lib.hid hM
  have HB2 := Lib.hid hB02
  have HN := Lib.hid hm
  have HV := Lib.hid hv
  have HR := Lib.hid hr
  have HFL := Lib.hid hfl
  have HGF := Lib.hid hg
  rw [hm, hq, hfl]
  clear hM hv hr hB1 hB2 hB02 k0 hm hq hfl hg
  go_enter Try.func8, Try.ntmps8
  go_wp2_with fail
  refine HJ.out.mono ?_
  rintro e w3 ⟨n, F, Ks, rfl, h1, h2, h3, h4, h5⟩
  have hB3 : Below w.heap.size w w3 := HB2.out.trans (h3.mono HB2.out.size)
  have HG := Lib.hid (grow_two (cap := cf) (B := w.heap.size) (by rw [← HN.out]; exact HM.out.n10) h1 (h2.mono HB2.out.size) hB3.size h4 h5 (by rw [← HN.out]; exact HV.out) (HR.out.below hB3 (fun _ => HGF.out)) HGF.out)
  rw [HFL.out] at HG
  have HB3 := Lib.hid hB3
  clear h1 h2 h3 h4 h5 hB3
  go_wp2_with fail
  refine HG.out.mono ?_
  rintro e w4 ⟨n1, rfl, h6, h7⟩
  have HAND := Lib.hid h7
  clear h6 h7
  go_wp2_with fail
  refine HAND.out.mono ?_
  rintro e w5 ⟨n2, F2, K2, rfl, hp, h1, h2, h3, h4, h5⟩
  have h10 : m ≤ 10 := by rw [← HN.out]; exact HM.out.n10
  have hw10 := wcost_10 h10
  have HKN : Hid (Calls Try.prog 21 #[.pointer (some ⟨F.p, 0, none⟩), .int .i64 n2] w5 fun e w' => ∃ (x : Int) (idx : List Nat) (R : List Kr) (A : Option Addr) (cv : Nat), e = .returned (.tuple #[.slice A R.length cv, .int .i64 x]) ∧ R.length ≤ 2000 ∧ DiaPost w m rs f (.returned (.tuple #[.slice A R.length cv, .int .i64 x, .int .i64 0])) w') := by
    have h := knots_any (by omega) h1 (by omega) (by omega) h4
    rw [hp] at h
    refine Lib.hid (h.mono ?_)
    rintro e w' ⟨x, idx, R, v, rfl, hb, hrow, hrk, hen, hl⟩
    have hb5 := HB3.out.trans h3
    obtain ⟨A, cv, hv⟩ : ∃ A cv, v = .slice A R.length cv := by
      rcases Joins.ownsRow_forms hrow with ⟨a, b⟩ | ⟨g, c', a⟩
      · exact ⟨none, 0, by rw [b]; exact a⟩
      · exact ⟨_, _, a⟩
    subst hv
    exact ⟨x, idx, R, A, cv, rfl, by omega, K2, n2, idx, R, x, _, rfl, hb5.trans (hb.mono hb5.size), own_weaken hrow hb5.size, h1.wf, h4, hrk, hen, by omega, h5⟩
  clear h1 h2 h3 h4 h5 hp
  go_wp2_with fail
  refine HKN.out.mono ?_
  rintro e w6 ⟨x, idx, R, A, cv, rfl, hl, h6⟩
  have H6 := Lib.hid h6
  have hl2 : decide ((2000 : Int) < (R.length : Int)) = false := decide_eq_false (by omega)
  obtain ⟨rl, hrl⟩ : ∃ rl, R.length = rl := ⟨_, rfl⟩
  rw [hrl] at H6 hl2 hl ⊢
  clear h6 hrl
  go_wp2_with fail
  go_ret3
  exact H6.out
/-- What List leaves: a row of variants. -/
def LisPost (w : World) (ys : List (List Bool)) (e : Ending) (w' : World) : Prop :=
  ∃ v, e = .returned (.tuple #[v, .int .i64 0]) ∧ Below w.heap.size w w' ∧ LB w' w.heap.size v ys
theorem lb_nil (w : World) (B : Nat) : LB w B (.slice none 0 0) [] := ⟨[], World.ownsRow_nil _ _ _ _, fun j x hx => by simp at hx⟩
set_option maxRecDepth 100000 in
theorem lis_any {w : World} {B c0 g off c1 gf of cf : Nat} {A0 A1 Af : Option Addr} {ns : List ByteArray} {rs : List (List Int)} {f : List Int} (hM : Mo w B A0 c0 A1 g off c1 ns rs)
    (hv : Vd ns.length f) (hr : RdF w Af gf of f) (hg : gf < w.heap.size) :
    Calls Try.prog 9 #[.agg #[.slice A0 ns.length c0, .slice A1 rs.length c1], .slice Af f.length cf, .int .i64 64] w (LisPost w ((SF ns.length rs f).take 64)) := by
  obtain ⟨m, hm⟩ : ∃ m, ns.length = m := ⟨_, rfl⟩
  obtain ⟨q, hq⟩ : ∃ q, rs.length = q := ⟨_, rfl⟩
  obtain ⟨l, hfl⟩ : ∃ l, f.length = l := ⟨_, rfl⟩
  obtain ⟨w1, hw1⟩ : ∃ w1, w.alloc (.cells #[.slice A0 m c0, .slice A1 q c1] 25) = w1 := ⟨_, rfl⟩
  have hB1 : Below w.heap.size w w1 := by rw [← hw1]; exact (Below.refl _ w).alloc (Nat.le_refl _) _
  have k0 : w1.heap[w.heap.size]? = some (.cells #[.slice A0 m c0, .slice A1 q c1] 25 (0, 0)) := by rw [← hw1]; exact allocNew _ _ _ rfl
  have p0 : w1.cell? ⟨w.heap.size, 0, none⟩ = some (.slice A0 m c0) := (blk_cell' k0 0).trans rfl
  have p1 : w1.cell? ⟨w.heap.size, 1, none⟩ = some (.slice A1 q c1) := (blk_cell' k0 1).trans rfl
  obtain ⟨w2, hw2⟩ : ∃ w2, w1.alloc (.cells #[.slice Af l cf] 27) = w2 := ⟨_, rfl⟩
  have hB2 : Below w1.heap.size w1 w2 := by rw [← hw2]; exact (Below.refl _ w1).alloc (Nat.le_refl _) _
  have hB02 : Below w.heap.size w w2 := hB1.trans (hB2.mono hB1.size)
  have HJ : Hid (Calls Try.prog 17 #[.agg #[.slice A0 m c0, .slice A1 q c1], .slice (some ⟨w1.heap.size, 0, none⟩) 1 1] w2 (BegPost w2 m rs)) := by
    have h1 := one_F (cap := cf) (hr.below hB1 (fun _ => hg)) (fun _ => by have := hB1.size; omega)
    rw [hfl, hw2] at h1
    have h := begin_any (c2 := 1) (hM.below hB02) (fs := [f]) (by intro x hx; simp at hx; rw [hx]; exact hv) h1 (by rw [← hw2]; simp) (by simp)
    rw [hm, hq] at h
    exact Lib.hid h
  have HM := Lib.hid hM
  have HB2 := Lib.hid hB02
  have HN := Lib.hid hm
  have HV := Lib.hid hv
  have HR := Lib.hid hr
  have HFL := Lib.hid hfl
  have HGF := Lib.hid hg
  rw [hm, hq, hfl]
  clear hM hv hr hB1 hB2 hB02 k0 hm hq hfl hg
  go_enter Try.func9, Try.ntmps9
  go_wp2_with fail
  refine HJ.out.mono ?_
  rintro e w3 ⟨n, F, Ks, rfl, h1, h2, h3, h4, h5⟩
  have hB3 : Below w.heap.size w w3 := HB2.out.trans (h3.mono HB2.out.size)
  have HG := Lib.hid (grow_two (cap := cf) (B := w.heap.size) (by rw [← HN.out]; exact HM.out.n10) h1 (h2.mono HB2.out.size) hB3.size h4 h5 (by rw [← HN.out]; exact HV.out) (HR.out.below hB3 (fun _ => HGF.out)) HGF.out)
  rw [HFL.out] at HG
  have HB3 := Lib.hid hB3
  clear h1 h2 h3 h4 h5 hB3
  go_wp2_with fail
  refine HG.out.mono ?_
  rintro e w4 ⟨n1, rfl, h6, h7⟩
  have HAND := Lib.hid h7
  clear h6 h7
  go_wp2_with fail
  refine HAND.out.mono ?_
  rintro e w5 ⟨n2, F2, K2, rfl, hp, h1, h2, h3, h4, h5⟩
  have h10 : m ≤ 10 := by rw [← HN.out]; exact HM.out.n10
  have HLI : Hid (Calls Try.prog 22 #[.pointer (some ⟨F.p, 0, none⟩), .int .i64 n2, .slice none 0 0, .int .i64 64, .slice none 0 0] w5 fun e w' => ∃ v, e = .returned v ∧ LisPost w ((SF m rs f).take 64) (.returned (.tuple #[v, .int .i64 0])) w') := by
    have hb5 := HB3.out.trans h3
    have h := list_any (N := m) (lim := 64) (by omega) (by omega) m w5 F2 K2 2400000 n2 w.heap.size [] (.slice none 0 0) (.slice none 0 0) [] h1 h4 (by simp) (.inl ⟨rfl, rfl⟩) hb5.size (lb_nil _ _) (by simp)
    rw [hp] at h
    refine Lib.hid (h.mono ?_)
    rintro e w' ⟨v, rfl, hlb, hgr, _⟩
    rw [List.nil_append, sat_sem h1.wf h4 h5] at hlb
    exact ⟨v, rfl, v, rfl, hb5.trans ⟨hgr.os, hgr.tape, hgr.output, hgr.size, fun b hb => hgr.block b (by have := hb5.size; omega) (by simp [Value.ownBlock])⟩, hlb⟩
  clear h1 h2 h3 h4 h5 hp
  go_wp2_with fail
  refine HLI.out.mono ?_
  rintro e w6 ⟨v, rfl, h6⟩
  have H6 := Lib.hid h6
  clear h6
  go_wp2_with fail
  go_ret2
  exact H6.out
end Go.Proofs.Ytiglkpgoakibaaa
namespace Go.Proofs.Ytiglkpgoakibaaa
open Go.RowKit Go.Maps PTopKnots Go.Proofs.YtiglkpgoakibaaaW.PrintWords
set_option linter.unusedVariables false
set_option linter.unusedSimpArgs false

def SM (N : Nat) (rs fs : List (List Int)) : List (List Bool) := (allv N []).filter fun x => asem rs (vf x) && asem fs (vf x)
/-- The two calls behind begin: the formulas are grown and joined with the rules. -/
theorem all_two {w : World} {F : Fb} {N B B' n g off cap : Nat} {A : Option Addr} {Ks : List Kn} {rs fs : List (List Int)} (hN : N ≤ 10) (hf : Fo w F N Ks 2100000) (ha : Abv F B) (hB : B ≤ w.heap.size) (hn : n < Ks.length) (he : ∀ v, ev Ks n v = asem rs v)
    (hv : ∀ f ∈ fs, Vd N f) (hl : fs.length ≤ 10) (hr : RdFs w B' A g off fs) (hB' : B' ≤ B) :
    Calls Try.prog 24 #[.pointer (some ⟨F.p, 0, none⟩), .slice A fs.length cap] w fun e w1 => ∃ n1 : Nat, e = .returned (.int .i64 n1) ∧ Below B w w1 ∧
      Calls Try.prog 19 #[.pointer (some ⟨F.p, 0, none⟩), .slice (some ⟨w1.heap.size, 0, none⟩) 2 2] (w1.alloc (.cells #[.int .i64 (n : Nat), .int .i64 (n1 : Nat)] 3)) fun e2 w2 => ∃ (n2 : Nat) (F2 : Fb) (K2 : List Kn), e2 = .returned (.int .i64 n2) ∧ F2.p = F.p ∧ Fo w2 F2 N K2 4400000 ∧ Abv F2 B ∧ Below B w w2 ∧ n2 < K2.length ∧ ∀ v, ev K2 n2 v = (asem rs v && asem fs v) := by
  have h10 := costJ_10 hN
  have hca := cost_all hN hl
  refine (all_any (cap := cap) (by omega) hf hv (by omega) hr (Nat.le_trans hB' hB) (ha.mono hB') (by omega)).mono ?_
  rintro e w1 ⟨n1, F1, K1, rfl, h1, h2, h3, h4⟩
  have hz := h2.size
  have hB1 : Below w1.heap.size w1 (w1.alloc (.cells #[.int .i64 (n : Nat), .int .i64 (n1 : Nat)] 3)) := (Below.refl _ w1).alloc (Nat.le_refl _) _
  have hn1 : n < K1.length := Nat.lt_of_lt_of_le hn h2.ext.len
  have ha1 := h2.abv ha hB
  refine ⟨n1, rfl, h2.bel ha hB, ?_⟩
  have h := and_any (cap := 2) (xs := [n, n1]) (by omega) (h1.below hB1) (by intro x hx; simp at hx; rcases hx with h | h <;> (subst h; assumption)) (by simp) (cell_two w1 n n1) (by simp) (h1.apt (Nat.le_refl _)) (by simp; omega)
  rw [h2.p] at h
  refine h.mono ?_
  rintro e2 w2 ⟨n2, F2, K2, rfl, k1, k2, k3, k4⟩
  refine ⟨n2, F2, K2, rfl, k2.p.trans h2.p, k1.more (by simp; omega), k2.abv ha1 (by simp; omega), ?_, k3, fun v => ?_⟩
  · exact (h2.bel ha hB).trans ((hB1.mono (by omega)).trans (k2.bel ha1 (by simp; omega)))
  · rw [k4 v]
    simp only [List.all_cons, List.all_nil, Bool.and_true]
    rw [h4 v, ev_ext hf.wf h1.wf h2.ext v n hn, he v]
/-- What Meets leaves: whether there is a variant, and the first one. -/
def MeePost (w : World) (N : Nat) (ys : List (List Bool)) (e : Ending) (w' : World) : Prop :=
  ∃ (A : Option Addr) (l c : Nat), e = .returned (.tuple #[.slice A l c, .bool (decide (0 < ys.length)), .int .i64 0]) ∧ Below w.heap.size w w' ∧
    (0 < ys.length → ∃ (x : List Bool) (g : Nat), ys.head? = some x ∧ x.length = N ∧ l = N ∧ c = N ∧ A = some ⟨g, 0, none⟩ ∧ w.heap.size ≤ g ∧ w'.heap[g]? = some (.cells (fbs x 0) 4 (0, 0)))
set_option maxRecDepth 100000 in
theorem mee_any {w : World} {B B' c0 g off c1 gf of cf : Nat} {A0 A1 Af : Option Addr} {ns : List ByteArray} {rs fs : List (List Int)} (hM : Mo w B A0 c0 A1 g off c1 ns rs)
    (hv : ∀ f ∈ fs, Vd ns.length f) (hl : fs.length ≤ 10) (hr : RdFs w B' Af gf of fs) (hB' : B' ≤ w.heap.size) :
    Calls Try.prog 10 #[.agg #[.slice A0 ns.length c0, .slice A1 rs.length c1], .slice Af fs.length cf] w (MeePost w ns.length (SM ns.length rs fs)) := by
  obtain ⟨m, hm⟩ : ∃ m, ns.length = m := ⟨_, rfl⟩
  obtain ⟨q, hq⟩ : ∃ q, rs.length = q := ⟨_, rfl⟩
  obtain ⟨l, hfl⟩ : ∃ l, fs.length = l := ⟨_, rfl⟩
  obtain ⟨w1, hw1⟩ : ∃ w1, w.alloc (.cells #[.slice A0 m c0, .slice A1 q c1] 25) = w1 := ⟨_, rfl⟩
  have hB1 : Below w.heap.size w w1 := by rw [← hw1]; exact (Below.refl _ w).alloc (Nat.le_refl _) _
  have k0 : w1.heap[w.heap.size]? = some (.cells #[.slice A0 m c0, .slice A1 q c1] 25 (0, 0)) := by rw [← hw1]; exact allocNew _ _ _ rfl
  have p0 : w1.cell? ⟨w.heap.size, 0, none⟩ = some (.slice A0 m c0) := (blk_cell' k0 0).trans rfl
  have p1 : w1.cell? ⟨w.heap.size, 1, none⟩ = some (.slice A1 q c1) := (blk_cell' k0 1).trans rfl
  have HC : Hid (Calls Try.prog 23 #[.agg #[.slice A0 m c0, .slice A1 q c1]] w1 fun e w' => e = .returned (.int .i64 0) ∧ Below w1.heap.size w1 w') := by
    have h := checkM_any (hM.below hB1)
    rw [hm, hq] at h
    exact Lib.hid h
  have HM := Lib.hid hM
  have HB1 := Lib.hid hB1
  have HN := Lib.hid hm
  have HQ := Lib.hid hq
  have HV := Lib.hid hv
  have HR := Lib.hid hr
  have HFL := Lib.hid hfl
  have HL := Lib.hid hl
  have HBB := Lib.hid hB'
  have hl200 : decide ((200 : Int) < (l : Int)) = false := decide_eq_false (by omega)
  rw [hm, hq, hfl]
  clear hM hv hr hB1 k0 hm hq hfl hl hB'
  go_enter Try.func10, Try.ntmps10
  go_wp2_with fail
  refine HC.out.mono ?_
  rintro e w2 ⟨rfl, h2⟩
  have HB2 := Lib.hid (HB1.out.trans (h2.mono HB1.out.size))
  have p0 : w2.cell? ⟨w.heap.size, 0, none⟩ = some (.slice A0 m c0) := pw_cell_below h2 p0
  have p1 : w2.cell? ⟨w.heap.size, 1, none⟩ = some (.slice A1 q c1) := pw_cell_below h2 p1
  have HJ : Hid (Calls Try.prog 17 #[.agg #[.slice A0 m c0, .slice A1 q c1], .slice Af l cf] w2 (BegPost w2 m rs)) := by
    have h := begin_any (c2 := cf) (HM.out.below HB2.out) HV.out (HR.out.below (HB2.out.mono HBB.out)) (Nat.le_trans HBB.out HB2.out.size) (by have := HL.out; omega)
    rw [HN.out, HQ.out, HFL.out] at h
    exact Lib.hid h
  clear h2
  go_wp2_with fail
  refine HJ.out.mono ?_
  rintro e w3 ⟨n, F, Ks, rfl, h1, h2, h3, h4, h5⟩
  have hB3 : Below w.heap.size w w3 := HB2.out.trans (h3.mono HB2.out.size)
  have HG := Lib.hid (all_two (cap := cf) (B := w.heap.size) (by rw [← HN.out]; exact HM.out.n10) h1 (h2.mono HB2.out.size) hB3.size h4 h5 (by rw [← HN.out]; exact HV.out) HL.out (HR.out.below (hB3.mono HBB.out)) HBB.out)
  rw [HFL.out] at HG
  have HB3 := Lib.hid hB3
  clear h1 h2 h3 h4 h5 hB3
  go_wp2_with fail
  refine HG.out.mono ?_
  rintro e w4 ⟨n1, rfl, h6, h7⟩
  have HAND := Lib.hid h7
  clear h6 h7
  go_wp2_with fail
  refine HAND.out.mono ?_
  rintro e w5 ⟨n2, F2, K2, rfl, hp, h1, h2, h3, h4, h5⟩
  have h10 : m ≤ 10 := by rw [← HN.out]; exact HM.out.n10
  have hno := no_sem h1.wf h4 h5
  have hdn : ((n2 : Int) != 0) = decide (0 < (SM m rs fs).length) := by
    have e : (SM m rs fs).length = ((allv m []).filter fun x => asem rs (vf x) && asem fs (vf x)).length := rfl
    rw [Bool.eq_iff_iff]
    simp only [bne_iff_ne, ne_eq, decide_eq_true_eq]
    rw [e]
    omega
  have HFI : Hid (Calls Try.prog 25 #[.pointer (some ⟨F.p, 0, none⟩), .int .i64 n2] w5 fun e w' => ∃ (A : Option Addr) (l c : Nat), e = .returned (.slice A l c) ∧ MeePost w m (SM m rs fs) (.returned (.tuple #[.slice A l c, .bool ((n2 : Int) != 0), .int .i64 0])) w') := by
    have hb5 := HB3.out.trans h3
    have h := first_any h1 (by omega) h4
    rw [hp] at h
    refine Lib.hid (h.mono ?_)
    rintro e w' ⟨A, l, c', rfl, hb, hx⟩
    refine ⟨A, l, c', rfl, A, l, c', by rw [hdn], hb5.trans (hb.mono hb5.size), fun h0 => ?_⟩
    have hn0 : n2 ≠ 0 := fun e0 => by
      have := hno.1 e0
      unfold SM at h0
      omega
    obtain ⟨a1, a1', a2, a3⟩ := hx hn0
    exact ⟨fst K2 m m n2 [], w5.heap.size, fst_sem h1.wf h4 hn0 h5, by rw [fst_len]; simp, a1, a1', a2, hb5.size, a3⟩
  clear h1 h2 h3 h4 h5 hp hno hdn
  go_wp2_with fail
  refine HFI.out.mono ?_
  rintro e w6 ⟨A, l', c', rfl, h6⟩
  have H6 := Lib.hid h6
  clear h6
  go_wp2_with fail
  go_ret3
  exact H6.out
end Go.Proofs.Ytiglkpgoakibaaa
