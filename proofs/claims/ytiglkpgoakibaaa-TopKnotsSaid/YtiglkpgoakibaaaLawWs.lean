/- Words for the law's walk: rows that are read as formulas and rules, the law's own copy of the model. No condition beyond those named. The law's calls, told for the law's own copies of the model and of the formula. Condition: the copies lie there. Variants that are listed, as rows that are read; the ways of each knot. Plain law, and words for the law's walk. No condition beyond those named. The row of ways in the making, and its numbers: words for the law's walk. No condition beyond those named. The first variant as the law finds it, and the looks at variants: words for the law's walk. No condition beyond those named. The law's last looks: a listed variant is copied, the opposite formula is met: words for the law's walk. Conditions: those named. -/
import Derived.Test.YtiglkpgoakibaaaLawO
namespace Go.Proofs.Ytiglkpgoakibaaa
open Go.RowKit Go.Maps PTopKnots Go.Proofs.YtiglkpgoakibaaaW.PrintWords
set_option linter.unusedVariables false
set_option linter.unusedSimpArgs false

theorem cell_spot' {w : World} {a : Addr} {v : Value} (h : w.cell? a = some v) : a = ⟨a.block, a.off, none⟩ := by
  obtain ⟨b, o, s⟩ := a
  cases s with
  | none => rfl
  | some s =>
    unfold World.cell? at h
    split at h <;> simp at h
theorem addr_add (b o j : Nat) : (⟨b, o, none⟩ : Addr).add j = ⟨b, o + j, none⟩ := by
  simp [Addr.add]
theorem C_RdF {w : World} {A : Option Addr} {f : List Int} (h : Kd.C (Kd.int .i64) w A f.length f) : ∃ g off, RdF w A g off f ∧ (0 < f.length → g < w.heap.size) := by
  rcases Nat.eq_zero_or_pos f.length with h0 | h0
  · exact ⟨0, 0, ⟨fun hp => by omega, fun j x hx => by have := (List.getElem?_eq_some_iff.1 hx).1; omega⟩, fun hp => by omega⟩
  · obtain ⟨ad, e, hc⟩ := h.2.2 h0
    have hcell : ∀ j x, f[j]? = some x → w.cell? (ad.add j) = some (.int .i64 x) := fun j x hx => by
      obtain ⟨c, _, hK, hu⟩ := hc j x hx
      have hc' : c = [.int .i64 x] := hK
      have := hu 0 (.int .i64 x) (by rw [hc']; rfl)
      have e1 : (Kd.int .i64).sz = 1 := rfl
      rw [e1, Nat.mul_one, Nat.add_zero] at this
      exact this
    obtain ⟨x0, hx0⟩ : ∃ x, f[0]? = some x := ⟨_, List.getElem?_eq_getElem h0⟩
    have h00 := hcell 0 x0 hx0
    have e0 : ad.add 0 = ad := by
      obtain ⟨b, o, s⟩ := ad
      simp [Addr.add]
    rw [e0] at h00
    have hs := cell_spot' h00
    refine ⟨ad.block, ad.off, ⟨fun _ => by rw [e, ← hs], fun j x hx => ?_⟩, fun _ => World.block_lt_of_cell? w ad h00⟩
    rw [← addr_add, ← hs]
    exact hcell j x hx
theorem C_RdFs {w : World} {A : Option Addr} {rs : List (List Int)} (h : Kd.C (Kd.slice 3 (Kd.int .i64)) w A rs.length rs) : ∃ g off, RdFs w w.heap.size A g off rs := by
  rcases Nat.eq_zero_or_pos rs.length with h0 | h0
  · exact ⟨0, 0, ⟨fun hp => by omega, fun hp => by omega, fun j x hx => by have := (List.getElem?_eq_some_iff.1 hx).1; omega⟩⟩
  · obtain ⟨ad, e, hc⟩ := h.2.2 h0
    have hcell : ∀ j x, rs[j]? = some x → ∃ A' c', w.cell? (ad.add j) = some (.slice A' x.length c') ∧ x.length ≤ c' ∧ Kd.C (Kd.int .i64) w A' x.length x := fun j x hx => by
      obtain ⟨c, _, ⟨A', c', hc', hl, hC⟩, hu⟩ := hc j x hx
      have := hu 0 (.slice A' x.length c') (by rw [hc']; rfl)
      have e1 : (Kd.slice 3 (Kd.int .i64)).sz = 1 := rfl
      rw [e1, Nat.mul_one, Nat.add_zero] at this
      exact ⟨A', c', this, hl, hC⟩
    obtain ⟨x0, hx0⟩ : ∃ x, rs[0]? = some x := ⟨_, List.getElem?_eq_getElem h0⟩
    obtain ⟨A0, c0, h00, _⟩ := hcell 0 x0 hx0
    have e0 : ad.add 0 = ad := by
      obtain ⟨b, o, s⟩ := ad
      simp [Addr.add]
    rw [e0] at h00
    have hs := cell_spot' h00
    refine ⟨ad.block, ad.off, ⟨fun _ => by rw [e, ← hs], fun _ => World.block_lt_of_cell? w ad h00, fun j x hx => ?_⟩⟩
    obtain ⟨A', c', h1, _, h3⟩ := hcell j x hx
    obtain ⟨g', off', h4, h5⟩ := C_RdF h3
    exact ⟨A', g', off', c', by rw [← addr_add, ← hs]; exact h1, h4, h5⟩
theorem C_cellF {w : World} {A : Option Addr} {rs : List (List Int)} (h : Kd.C (Kd.slice 3 (Kd.int .i64)) w A rs.length rs) {k : Nat} {f : List Int} (hf : rs[k]? = some f) : ∃ g off A' c', A = some ⟨g, off, none⟩ ∧ w.cell? ⟨g, off + k, none⟩ = some (.slice A' f.length c') ∧ f.length ≤ c' ∧ Kd.C (Kd.int .i64) w A' f.length f := by
  obtain ⟨ad, e, hc⟩ := h.2.2 (by have := (List.getElem?_eq_some_iff.1 hf).1; omega)
  obtain ⟨c, _, ⟨A', c', hc', hl, hC⟩, hu⟩ := hc k f hf
  have h1 := hu 0 (.slice A' f.length c') (by rw [hc']; rfl)
  have e1 : (Kd.slice 3 (Kd.int .i64)).sz = 1 := rfl
  rw [e1, Nat.mul_one, Nat.add_zero] at h1
  obtain ⟨x0, hx0⟩ : ∃ x, rs[0]? = some x := ⟨_, List.getElem?_eq_getElem (by have := (List.getElem?_eq_some_iff.1 hf).1; omega)⟩
  obtain ⟨d, _, ⟨A2, c2, hd, _⟩, hv⟩ := hc 0 x0 hx0
  have h2 := hv 0 (.slice A2 x0.length c2) (by rw [hd]; rfl)
  rw [e1, Nat.mul_one, Nat.add_zero] at h2
  have e0 : ad.add 0 = ad := by
    obtain ⟨b, o, s⟩ := ad
    simp [Addr.add]
  rw [e0] at h2
  have hs2 := cell_spot' h2
  refine ⟨ad.block, ad.off, A', c', by rw [e, ← hs2], ?_, hl, hC⟩
  rw [← addr_add, ← hs2]
  exact h1
/-- The law's own copy of the model, in its box. -/
structure Own (w : World) (B b5 : Nat) (ns : List ByteArray) (rs : List (List Int)) : Prop where
  box : ∃ O0 oc0 O1 oc1 g off B1, w.heap[b5]? = some (.cells #[.slice O0 ns.length oc0, .slice O1 rs.length oc1] 25 (0, 0)) ∧ Mo w B1 O0 oc0 O1 g off oc1 ns rs ∧ rs.length ≤ oc1 ∧ Kd.C (Kd.slice 3 (Kd.int .i64)) w O1 rs.length rs
  hB : B ≤ b5
theorem info9 : (Try.prog.info? 9).map (fun i => (i.zero, i.size, i.bytes)) = some (some (.string ByteArray.empty), 1, 16) := by kernel_rfl
theorem info27 : (Try.prog.info? 27).map (fun i => (i.zero, i.size, i.bytes)) = some (some (.slice none 0 0), 1, 24) := by kernel_rfl
theorem own_form {w : World} {base : Nat} (m : Nat) (ns : List ByteArray) (v : Value) (hm : ns.length = m) (h : w.ownsRow base 9 1 v ([] ++ ns).length (encs Value.string ([] ++ ns))) :
    ∃ (A : Option Addr) (c : Nat), v = .slice A m c ∧ m ≤ c ∧ Kd.C Kd.string w A m ns ∧ (∀ b, v.ownBlock = some b → base ≤ b ∧ b < w.heap.size) := by
  subst hm
  rw [List.nil_append] at h
  obtain ⟨A, c, he, hl, hC⟩ := Kd.R_reads (Kd.R_of_own (h1 := fun _ => rfl) (ok := fun _ => True) h (fun _ _ => trivial))
  exact ⟨A, c, he, hl, hC, fun b hb => World.ownsRow.lt h b hb⟩
theorem C_blk {w w' : World} {A : Option Addr} {n c m : Nat} {xs : List ByteArray} (h : Kd.C Kd.string w A n xs) (hb : ∀ b, (Value.slice A m c).ownBlock = some b → w'.heap[b]? = w.heap[b]?) : Kd.C Kd.string w' A n xs := by
  refine ⟨h.1, h.2.1, fun h0 => ?_⟩
  obtain ⟨ad, e, hc⟩ := h.2.2 h0
  subst e
  refine ⟨ad, rfl, fun j p hj => ?_⟩
  obtain ⟨c', hs, hK, hu⟩ := hc j p hj
  refine ⟨c', hs, hK, fun i u hi => ?_⟩
  have e : ∀ k, (ad.add k).block = ad.block := fun k => by
    unfold Addr.add
    split <;> rfl
  exact (World.cell?_of_block (by rw [e]; exact hb _ rfl)).trans (hu i u hi)
theorem SM_one (N : Nat) (rs : List (List Int)) (f : List Int) : SM N rs [f] = SF N rs f := by
  unfold SM SF qsem asem
  refine List.filter_congr fun x _ => ?_
  simp
end Go.Proofs.Ytiglkpgoakibaaa
namespace Go.Proofs.Ytiglkpgoakibaaa
open Go.RowKit Go.Maps PTopKnots Go.Proofs.YtiglkpgoakibaaaW.PrintWords
set_option linter.unusedVariables false
set_option linter.unusedSimpArgs false

theorem own_formF {w : World} {base l : Nat} {ok : Nat → Prop} (f : List Int) (v : Value) (hl : f.length = l) (h : Kd.R (Kd.int .i64) 3 w base ok v ([] ++ f)) : ∃ (A : Option Addr) (c : Nat), v = .slice A l c ∧ l ≤ c ∧ Kd.C (Kd.int .i64) w A l f := by
  subst hl
  obtain ⟨A, c, he, hc, hC⟩ := Kd.R_reads h
  exact ⟨A, c, he, hc, hC⟩
/-- The law's own copies. -/
structure L8 (W : World) (m q l b5 : Nat) (O0 : Option Addr) (oc0 : Nat) (O1 : Option Addr) (oc1 : Nat) (AF : Option Addr) (ns : List ByteArray) (rs : List (List Int)) (f : List Int) : Prop where
  n : ns.length = m
  r : rs.length = q
  fl : f.length = l
  mo : ∃ B g off, Mo W B O0 oc0 O1 g off oc1 ns rs
  cr : Kd.C (Kd.slice 3 (Kd.int .i64)) W O1 rs.length rs
  oc : rs.length ≤ oc1
  vd : Vd ns.length f
  f40 : l ≤ 40
  rd : ∃ g off, RdF W AF g off f ∧ g < W.heap.size
  box : W.heap[b5]? = some (.cells #[.slice O0 m oc0, .slice O1 q oc1] 25 (0, 0))
section
variable {W W' : World} {m q l b5 oc0 oc1 cF : Nat} {O0 O1 AF : Option Addr} {ns : List ByteArray} {rs : List (List Int)} {f : List Int}
theorem L8.below (h : L8 W m q l b5 O0 oc0 O1 oc1 AF ns rs f) (hb : Below W.heap.size W W') : L8 W' m q l b5 O0 oc0 O1 oc1 AF ns rs f := by
  obtain ⟨B, g, off, hm⟩ := h.mo
  obtain ⟨gf, of, h1, h2⟩ := h.rd
  exact ⟨h.n, h.r, h.fl, ⟨B, g, off, hm.below hb⟩, Kd.C_below h.cr hb, h.oc, h.vd, h.f40, ⟨gf, of, h1.below hb (fun _ => h2), Nat.lt_of_lt_of_le h2 hb.size⟩, (hb.block _ (blk_lt' h.box)).trans h.box⟩
theorem L8.q0 (h : L8 W m q l b5 O0 oc0 O1 oc1 AF ns rs f) : W.cell? ⟨b5, 0, none⟩ = some (.slice O0 m oc0) := (blk_cell' h.box 0).trans rfl
theorem L8.q1 (h : L8 W m q l b5 O0 oc0 O1 oc1 AF ns rs f) : W.cell? ⟨b5, 1, none⟩ = some (.slice O1 q oc1) := (blk_cell' h.box 1).trans rfl
theorem L8.m10 (h : L8 W m q l b5 O0 oc0 O1 oc1 AF ns rs f) : m ≤ 10 := by
  obtain ⟨B, g, off, hm⟩ := h.mo
  rw [← h.n]
  exact hm.n10
theorem L8.cnt (h : L8 W m q l b5 O0 oc0 O1 oc1 AF ns rs f) : Calls Try.prog 7 #[.agg #[.slice O0 m oc0, .slice O1 q oc1], .slice AF l cF] W fun e w' => e = .returned (.tuple #[.int .i64 ((SF m rs f).length : Nat), .int .i64 0]) ∧ Below W.heap.size W w' := by
  obtain ⟨B, g, off, hm⟩ := h.mo
  obtain ⟨gf, of, h1, h2⟩ := h.rd
  have hc := cnt_any (cf := cF) hm h.vd h1 h2
  rw [h.n, h.r, h.fl] at hc
  exact hc
theorem RK_own {w : World} {base : Nat} {v : Value} {R : List Kr} (h : w.ownsRow base 44 3 v R.length (R.flatMap rcl)) : ∃ (A : Option Addr) (c kb : Nat), v = .slice A R.length c ∧ R.length ≤ c ∧ RK w A kb R := by
  have hl : ∀ R : List Kr, (R.flatMap rcl).length = R.length * 3 := fun R => by
    induction R with
    | nil => rfl
    | cons k R ih => simp only [List.flatMap_cons, List.length_append, ih, List.length_cons, rcl, List.length_nil]; omega
  have hat : ∀ (R : List Kr) (i j : Nat) (k : Kr), j < 3 → R[i]? = some k → (R.flatMap rcl)[i * 3 + j]? = (rcl k)[j]? := fun R => by
    induction R with
    | nil => intro i j k _ hk; simp at hk
    | cons y R ih =>
      intro i j k hj hk
      have hy : (rcl y).length = 3 := rfl
      simp only [List.flatMap_cons]
      cases i with
      | zero =>
        simp only [List.getElem?_cons_zero, Option.some.injEq] at hk
        subst hk
        rw [List.getElem?_append_left (by omega)]
        simp
      | succ i =>
        simp only [List.getElem?_cons_succ] at hk
        rw [List.getElem?_append_right (by omega), hy, show (i + 1) * 3 + j - 3 = i * 3 + j by omega]
        exact ih i j k hj hk
  rcases h.2 with ⟨rfl, h0⟩ | ⟨g, cap, cur, rfl, hg, hh, hn, _⟩
  · exact ⟨none, 0, 0, by rw [h0], by omega, fun hp => by omega, fun i r hr => by have := (List.getElem?_eq_some_iff.1 hr).1; omega⟩
  · refine ⟨_, cap, g, rfl, hn, fun _ => rfl, fun i r hr => ?_⟩
    have hi := (List.getElem?_eq_some_iff.1 hr).1
    refine ⟨?_, ?_, ?_⟩
    · rw [World.ownsRow.cellAt h _ (by omega)]; exact hat R i 0 r (by omega) hr
    · rw [World.ownsRow.cellAt h _ (by omega)]; exact hat R i 1 r (by omega) hr
    · rw [World.ownsRow.cellAt h _ (by omega)]; exact hat R i 2 r (by omega) hr
theorem L8.dia (h : L8 W m q l b5 O0 oc0 O1 oc1 AF ns rs f) : Calls Try.prog 8 #[.agg #[.slice O0 m oc0, .slice O1 q oc1], .slice AF l cF] W fun e w' => ∃ (Ks : List Kn) (n : Nat) (idx : List Nat) (R : List Kr) (x : Int) (A : Option Addr) (c kb : Nat), e = .returned (.tuple #[.slice A R.length c, .int .i64 x, .int .i64 0]) ∧ R.length ≤ c ∧ Below W.heap.size W w' ∧ RK w' A kb R ∧ Dg m rs f Ks n idx R x := by
  obtain ⟨B, g, off, hm⟩ := h.mo
  obtain ⟨gf, of, h1, h2⟩ := h.rd
  have hc := dia_any (cf := cF) hm h.vd h1 h2
  rw [h.n, h.r, h.fl] at hc
  refine hc.mono ?_
  rintro e w' ⟨Ks, n, idx, R, x, v, rfl, hb, ho, hd⟩
  obtain ⟨A, c, kb, rfl, hcc, hk⟩ := RK_own ho
  exact ⟨Ks, n, idx, R, x, A, c, kb, rfl, hcc, hb, hk, hd⟩
theorem L8.lis (h : L8 W m q l b5 O0 oc0 O1 oc1 AF ns rs f) : Calls Try.prog 9 #[.agg #[.slice O0 m oc0, .slice O1 q oc1], .slice AF l cF, .int .i64 64] W fun e w' => ∃ (A : Option Addr) (c : Nat), e = .returned (.tuple #[.slice A ((SF m rs f).take 64).length c, .int .i64 0]) ∧ Below W.heap.size W w' ∧ LB w' W.heap.size (.slice A ((SF m rs f).take 64).length c) ((SF m rs f).take 64) := by
  obtain ⟨B, g, off, hm⟩ := h.mo
  obtain ⟨gf, of, h1, h2⟩ := h.rd
  have hc := lis_any (cf := cF) hm h.vd h1 h2
  rw [h.n, h.r, h.fl] at hc
  refine hc.mono ?_
  rintro e w' ⟨v, rfl, hb, hl⟩
  obtain ⟨A, c, rfl⟩ : ∃ A c, v = .slice A ((SF m rs f).take 64).length c := by
    obtain ⟨cells, ho, _⟩ := hl
    rcases Joins.ownsRow_forms ho with ⟨a, b⟩ | ⟨g, c', a⟩
    · exact ⟨none, 0, by rw [b]; exact a⟩
    · exact ⟨_, _, a⟩
  exact ⟨A, c, rfl, hb, hl⟩
/-- Whether there is a variant in which a formula holds, and the first one. -/
theorem L8.mee (h : L8 W m q l b5 O0 oc0 O1 oc1 AF ns rs f) {A' : Option Addr} {c' g' off' l' : Nat} {f' : List Int} (hv : Vd m f') (hr : RdF W A' g' off' f') (hg : g' < W.heap.size) (hl : f'.length = l') :
    Calls Try.prog 10 #[.agg #[.slice O0 m oc0, .slice O1 q oc1], .slice (some ⟨W.heap.size, 0, none⟩) 1 1] (W.alloc (.cells #[.slice A' l' c'] 27)) fun e w' => ∃ (A : Option Addr) (lv c : Nat), e = .returned (.tuple #[.slice A lv c, .bool (decide (0 < (SF m rs f').length)), .int .i64 0]) ∧ Below W.heap.size W w' ∧
      (0 < (SF m rs f').length → ∃ (x : List Bool) (g : Nat), (SF m rs f').head? = some x ∧ x.length = m ∧ lv = m ∧ c = m ∧ A = some ⟨g, 0, none⟩ ∧ W.heap.size ≤ g ∧ w'.heap[g]? = some (.cells (fbs x 0) 4 (0, 0))) := by
  subst hl
  have hb : Below W.heap.size W (W.alloc (.cells #[.slice A' f'.length c'] 27)) := (Below.refl _ W).alloc (Nat.le_refl _) _
  obtain ⟨B, g, off, hm⟩ := (h.below hb).mo
  have h1 := one_F (cap := c') hr (fun _ => hg)
  have hc := mee_any (cf := 1) hm (fs := [f']) (by intro x hx; simp at hx; rw [hx, h.n]; exact hv) (by simp) h1 (by simp)
  rw [h.n, h.r, SM_one] at hc
  refine hc.mono ?_
  rintro e w' ⟨A, lv, c, rfl, hbw, hx⟩
  refine ⟨A, lv, c, rfl, hb.trans (hbw.mono hb.size), fun h0 => ?_⟩
  obtain ⟨x, g, a1, a2, a3, a3', a4, a5, a6⟩ := hx h0
  exact ⟨x, g, a1, a2, a3, a3', a4, Nat.le_trans hb.size a5, a6⟩
theorem L8.fol (h : L8 W m q l b5 O0 oc0 O1 oc1 AF ns rs f) {kb ck gv ov cv r : Nat} {Ak Av : Option Addr} {Ks : List Kn} {n : Nat} {idx : List Nat} {R : List Kr} {x : Int} {xs : List Bool} (hD : Dg m rs f Ks n idx R x) (hR : RK W Ak kb R) (hck : R.length ≤ ck) (hV : RdB W Av gv ov xs) (hxl : xs.length = m) (hrl : R.length = r) :
    Calls Try.prog 13 #[.agg #[.slice O0 m oc0, .slice O1 q oc1], .slice Ak r ck, .int .i64 x, .slice Av m cv] W fun e w' => e = .returned (.tuple #[.bool (qsem rs f (vf xs)), .int .i64 0]) ∧ Below W.heap.size W w' := by
  obtain ⟨B, g, off, hm⟩ := h.mo
  have hn := h.n
  subst hn
  have hq := h.r
  subst hq
  subst hrl
  have hc := fol_any (cv := cv) hm h.cr h.oc hD hR hck hV hxl
  rw [hD.sem] at hc
  exact hc
end
end Go.Proofs.Ytiglkpgoakibaaa
namespace Go.Proofs.Ytiglkpgoakibaaa
open Go.RowKit Go.Maps PTopKnots Go.Proofs.YtiglkpgoakibaaaW.PrintWords
set_option linter.unusedVariables false
set_option linter.unusedSimpArgs false

/-- A list of variants that is read. -/
structure RL (w : World) (A : Option Addr) (ga : Nat) (ys : List (List Bool)) : Prop where
  hA : 0 < ys.length → A = some ⟨ga, 0, none⟩
  hc : ∀ j x, ys[j]? = some x → ∃ (Au : Option Addr) (cu : Nat), w.cell? ⟨ga, j, none⟩ = some (.slice Au x.length cu) ∧ x.length ≤ cu ∧ Kd.C Kd.bool w Au x.length x
theorem RL.below {w w' : World} {A : Option Addr} {ga : Nat} {ys : List (List Bool)} (h : RL w A ga ys) (hb : Below w.heap.size w w') : RL w' A ga ys :=
  ⟨h.hA, fun j x hx => by
    obtain ⟨Au, cu, h1, h2, h3⟩ := h.hc j x hx
    exact ⟨Au, cu, pw_cell_below hb h1, h2, Kd.C_below h3 hb⟩⟩
theorem C_cells {w : World} {g : Nat} {cs : Array Value} {x : List Bool} (hl : x.length ≤ 1000) (hg : w.heap[g]? = some (.cells cs 4 (0, 0))) (hc : ∀ (j : Nat) (b : Bool), x[j]? = some b → cs[j]? = some (Value.bool b)) : Kd.C Kd.bool w (some ⟨g, 0, none⟩) x.length x := by
  refine ⟨rfl, by omega, fun _ => ⟨_, rfl, fun j p hj => ⟨[.bool p], rfl, rfl, fun i u hu => ?_⟩⟩⟩
  have hi := (List.getElem?_eq_some_iff.1 hu).1
  obtain rfl : i = 0 := by simp at hi; exact hi
  cases hu
  have e : (⟨g, 0, none⟩ : Addr).add (j * Kd.bool.sz + 0) = ⟨g, j, none⟩ := by
    have : Kd.bool.sz = 1 := rfl
    rw [this, addr_add]
    simp
  rw [e, blk_cell' hg j]
  exact hc j p hj
theorem C_nilB (w : World) : Kd.C Kd.bool w none ([] : List Bool).length [] := ⟨rfl, by decide, fun h => absurd h (by decide)⟩
theorem RL_own {w : World} {B l c : Nat} {A : Option Addr} {ys : List (List Bool)} (h : LB w B (.slice A l c) ys) (hx : ∀ x ∈ ys, x.length ≤ 1000) : ∃ ga, RL w A ga ys := by
  obtain ⟨cells, ho, hc⟩ := h
  rcases ho.2 with ⟨h1, h2⟩ | ⟨g, cap, cur, h1, hg, hh, hn, _, _, htk⟩
  · exact ⟨0, fun hp => by omega, fun j x hx => by have := (List.getElem?_eq_some_iff.1 hx).1; omega⟩
  · injection h1 with e1 e2 e3
    subst e1
    subst e2
    subst e3
    refine ⟨g, fun _ => rfl, fun j x hj => ?_⟩
    have hjl := (List.getElem?_eq_some_iff.1 hj).1
    obtain ⟨u, hu, hb⟩ := hc j x hj
    have hcell : w.cell? ⟨g, j, none⟩ = some u := by
      rw [World.ownsRow.cellAt ho _ (by omega)]
      exact hu
    rcases hb with ⟨rfl, rfl⟩ | ⟨g', c', cs, rfl, hBc, hg', hcs⟩
    · exact ⟨none, 0, hcell, Nat.le_refl _, C_nilB w⟩
    · exact ⟨_, c', hcell, hBc.2, C_cells (hx x (List.mem_of_getElem? hj)) hg' hcs⟩
theorem C_RdB {w : World} {A : Option Addr} {x : List Bool} (h : Kd.C Kd.bool w A x.length x) : ∃ g off, RdB w A g off x := by
  rcases Nat.eq_zero_or_pos x.length with h0 | h0
  · exact ⟨0, 0, ⟨fun hp => by omega, fun j b hx => by have := (List.getElem?_eq_some_iff.1 hx).1; omega⟩⟩
  · obtain ⟨ad, e, hc⟩ := h.2.2 h0
    have hcell : ∀ j b, x[j]? = some b → w.cell? (ad.add j) = some (.bool b) := fun j b hx => by
      obtain ⟨c, _, hK, hu⟩ := hc j b hx
      have hc' : c = [.bool b] := hK
      have := hu 0 (.bool b) (by rw [hc']; rfl)
      have e1 : Kd.bool.sz = 1 := rfl
      rw [e1, Nat.mul_one, Nat.add_zero] at this
      exact this
    obtain ⟨x0, hx0⟩ : ∃ b, x[0]? = some b := ⟨_, List.getElem?_eq_getElem h0⟩
    have h00 := hcell 0 x0 hx0
    have e0 : ad.add 0 = ad := by
      obtain ⟨b, o, s⟩ := ad
      simp [Addr.add]
    rw [e0] at h00
    have hs := cell_spot' h00
    refine ⟨ad.block, ad.off, ⟨fun _ => by rw [e, ← hs], fun j b hx => ?_⟩⟩
    rw [← addr_add, ← hs]
    exact hcell j b hx
theorem SF_len {N : Nat} {rs : List (List Int)} {f : List Int} : ∀ x ∈ SF N rs f, x.length = N ∧ qsem rs f (vf x) = true := fun x hx => by
  obtain ⟨h1, h2⟩ := List.mem_filter.1 hx
  obtain ⟨h3, _⟩ := allv_mem _ _ _ h1
  exact ⟨by simpa using h3, h2⟩
theorem SF_not {N : Nat} {rs : List (List Int)} {f : List Int} {x : List Bool} (h : x ∈ SF N rs (-3 :: f)) : qsem rs f (vf x) = false := by
  have h1 := (SF_len x h).2
  unfold qsem at h1 ⊢
  rw [fsem_not] at h1
  simp only [Bool.and_eq_true, Bool.not_eq_true'] at h1
  rw [h1.2, Bool.and_false]

/-! ### the ways -/
/-- The ways of the knots, one by one. -/
def ways (Ks : List Kn) (idx : List Nat) : List Nat := idx.map (wy Ks)
theorem ways_at {Ks : List Kn} {idx : List Nat} {j n : Nat} (h : idx[j]? = some n) : (ways Ks idx)[j]? = some (wy Ks n) := by
  unfold ways
  rw [List.getElem?_map, h]
  rfl
/-- Whatever number stands for a node: at answers its level and its ways, if those of the knots before are told. -/
theorem atR_of {N : Nat} {Ks : List Kn} {idx : List Nat} {R : List Kr} (hw : WF N Ks) (hk : Rk Ks idx R) {W : List Nat} {i : Nat} (hW : ∀ j n, j < i → idx[j]? = some n → W[j]? = some (wy Ks n)) {y : Int} {q : Nat} (he : En (idx.take i) y q) : AtR N R W y (lv Ks q) (wy Ks q) := by
  rcases he with ⟨h1, h2⟩ | ⟨h1, h2⟩ | ⟨j, h1, h2⟩
  · subst h2
    exact .inl ⟨h1, hw.lv0, wy_0 Ks⟩
  · subst h2
    exact .inr (.inl ⟨h1, hw.lv1, wy_1 Ks⟩)
  · have hj := (List.getElem?_eq_some_iff.1 h2).1
    rw [List.length_take] at hj
    have hl := hk.len
    rw [List.getElem?_take_of_lt (by omega)] at h2
    obtain ⟨r, hr⟩ : ∃ r, R[j]? = some r := ⟨_, List.getElem?_eq_getElem (by omega)⟩
    obtain ⟨n', k', a1, a2, a3, a4, _⟩ := hk.kn j r hr
    rw [h2] at a1
    cases a1
    exact .inr (.inr ⟨j, r, h1, hr, by rw [a4, lv_of a3], hW j q (by omega) h2⟩)
/-- One knot: what the law looks at, and what it counts. -/
theorem knot_ways {N : Nat} {Ks : List Kn} {idx : List Nat} {R : List Kr} (hw : WF N Ks) (hk : Rk Ks idx R) {i : Nat} {r : Kr} (hr : R[i]? = some r) :
    ∃ (n ql qh : Nat), idx[i]? = some n ∧ n < Ks.length ∧ r.o < N ∧ En (idx.take i) r.l ql ∧ En (idx.take i) r.h qh ∧ r.o < lv Ks ql ∧ lv Ks ql ≤ N ∧ r.o < lv Ks qh ∧ lv Ks qh ≤ N ∧ ql < Ks.length ∧ qh < Ks.length ∧
      wy Ks n = wy Ks ql * 2 ^ (lv Ks ql - (r.o + 1)) + wy Ks qh * 2 ^ (lv Ks qh - (r.o + 1)) ∧ -2 ≤ r.l ∧ r.l < i ∧ -2 ≤ r.h ∧ r.h < i := by
  obtain ⟨n, k, a1, a2, a3, a4, a5, a6⟩ := hk.kn i r hr
  obtain ⟨b0, b1, b2, b3, b4, b5⟩ := hw.kn n k a2 a3
  have hlt := (List.getElem?_eq_some_iff.1 a3).1
  have hb : ∀ {y : Int} {q : Nat}, En (idx.take i) y q → -2 ≤ y ∧ y < i := fun {y q} he => by
    rcases he with ⟨h1, _⟩ | ⟨h1, _⟩ | ⟨j, h1, h2⟩
    · omega
    · omega
    · have := (List.getElem?_eq_some_iff.1 h2).1
      rw [List.length_take] at this
      omega
  rw [a4]
  exact ⟨n, k.l, k.h, a1, hlt, b0, a5, a6, b4, hw.lv_le (by omega), b5, hw.lv_le (by omega), by omega, by omega, wy_k hw a2 a3, (hb a5).1, (hb a5).2, (hb a6).1, (hb a6).2⟩
end Go.Proofs.Ytiglkpgoakibaaa
namespace Go.Proofs.Ytiglkpgoakibaaa
open Go.RowKit Go.Maps PTopKnots Go.Proofs.YtiglkpgoakibaaaW.PrintWords
set_option linter.unusedVariables false
set_option linter.unusedSimpArgs false

/-- The row of ways: what is counted, and noughts. -/
def wl (p : List Nat) (m : Nat) : List Nat := p ++ List.replicate m 0
def wcs (p : List Nat) (m : Nat) : Array Value := ((wl p m).map fun x => Value.int .i64 (x : Nat)).toArray
theorem wl_len (p : List Nat) (m : Nat) : (wl p m).length = p.length + m := by simp [wl]
theorem wl_zero (p : List Nat) (m : Nat) : wl p (m + 1) = wl (p ++ [0]) m := by
  unfold wl
  rw [List.replicate_succ, List.append_assoc]
  rfl
theorem wcs_zero (p : List Nat) (m : Nat) : wcs p (m + 1) = wcs (p ++ [0]) m := by unfold wcs; rw [wl_zero]
theorem wcs_set (p : List Nat) (a b m : Nat) : (wcs (p ++ [a]) m).setIfInBounds p.length (.int .i64 (b : Nat)) = wcs (p ++ [b]) m := by
  unfold wcs wl
  rw [List.setIfInBounds_toArray]
  congr 1
  simp
theorem wl_at (p : List Nat) (a m : Nat) : (wl (p ++ [a]) m)[p.length]? = some a := by simp [wl]
theorem wl_pre (p t : List Nat) (m j x : Nat) (h : p[j]? = some x) : (wl (p ++ t) m)[j]? = some x := by
  have hj := (List.getElem?_eq_some_iff.1 h).1
  unfold wl
  rw [List.append_assoc, List.getElem?_append_left hj]
  exact h
theorem mki (N : Nat) (w : World) (h : N ≤ 2000) : (Instr.makeSlice 26 (.int .i64 (N : Int)) (.int .i64 (N : Int))).run Try.prog w = .ok (.slice (some ⟨w.heap.size, 0, none⟩) N N) (w.alloc (.cells (wcs [] N) 3)) := by
  have hi : ∃ i, Try.prog.info? 3 = some i ∧ i.zero = some (.int .i64 0) ∧ i.size = 1 ∧ i.bytes = 8 := by
    refine ⟨_, rfl, ?_, ?_, ?_⟩ <;> kernel_rfl
  obtain ⟨i, h1, h2, h3, h4⟩ := hi
  have := run_make (P := Try.prog) w 26 3 i (.int .i64 0) Try.underlying26 h1 h2 .i64 .i64 (N : Int) (N : Int) (by omega) (Int.le_refl _) (by rw [h4]; omega) (by omega)
  rw [h3] at this
  have e : madeCells #[.int .i64 0] N = wcs [] N := by
    apply Array.toList_inj.1
    rw [toList_madeCells_one]
    simp [wcs, wl]
  simpa [Value.cells, e] using this
theorem RW_own {w : World} {g : Nat} {p : List Nat} {m : Nat} (h : w.heap[g]? = some (.cells (wcs p m) 3 (0, 0))) : RW w (some ⟨g, 0, none⟩) g (wl p m) :=
  ⟨fun _ => rfl, fun i x hx => by
    rw [blk_cell' h i]
    unfold wcs
    simp [hx]⟩
/-- The parts of a knot's sum. -/
def pj (a b : Nat) : Nat → Nat
  | 0 => 0
  | 1 => a
  | _ => a + b
theorem shl_u (x s : Nat) (hs : s ≤ 40) (hx : x * 2 ^ s ≤ 1099511627776) : Op.shift .shl .i64 (x : Int) .u64 (s : Int) = pure (.int .i64 ((x * 2 ^ s : Nat) : Int)) := by
  rw [shift_shl_i64 .u64 (x : Int) (s : Int) (by omega) (by omega), Int.toNat_natCast]
  obtain ⟨z, hz⟩ : ∃ z, x * 2 ^ s = z := ⟨_, rfl⟩
  have e : (x : Int) * 2 ^ s = (z : Nat) := by rw [← hz]; simp
  rw [e, hz]
  rw [hz] at hx
  have : IntKind.i64.wrap (z : Int) = z := by rw [IntKind.wrap_i64]; omega
  rw [this]
theorem wrap_d1 {a b : Nat} (h : b < a) (ha : a ≤ 1000) : wrap64 ((a : Int) - (b : Int)) = ((a - b : Nat) : Int) := by unfold wrap64; omega
theorem wrap_d2 {a b : Nat} (h : b < a) (ha : a ≤ 1000) : wrap64 (((a - b : Nat) : Int) - 1) = ((a - (b + 1) : Nat) : Int) := by unfold wrap64; omega
theorem wrap_u (s : Nat) (hs : s ≤ 1000) : IntKind.u64.wrap (s : Int) = (s : Int) := by
  unfold IntKind.wrap
  simp [IntKind.bits, IntKind.signed]
  omega
theorem wrap_sum {a b : Nat} (h : a + b ≤ 1099511627776) : wrap64 ((a : Int) + (b : Int)) = ((a + b : Nat) : Int) := by unfold wrap64; omega
end Go.Proofs.Ytiglkpgoakibaaa
namespace Go.Proofs.Ytiglkpgoakibaaa
open Go.RowKit Go.Maps PTopKnots Go.Proofs.YtiglkpgoakibaaaW.PrintWords
set_option linter.unusedVariables false
set_option linter.unusedSimpArgs false

theorem fbs_rep (p : List Bool) (d m : Nat) : fbs (p ++ List.replicate d false) m = fbs p (d + m) := by
  unfold fbs
  rw [List.append_assoc, List.replicate_append_replicate]
theorem fbs_get (x : List Bool) (j : Nat) (b : Bool) (h : x[j]? = some b) : (fbs x 0)[j]? = some (.bool b) := by
  unfold fbs
  simp [h]
theorem same_l0 (x : List Bool) (hl : x.length ≤ 50) : ∀ d i, x.length = i + d → ∀ k, d + 1 ≤ k → ignitiontop_sameVariant.l0 k x x (i : Int) = some true := by
  intro d
  induction d with
  | zero =>
    intro i hi k hk
    obtain ⟨k, rfl⟩ : ∃ k', k = k' + 1 := ⟨k - 1, by omega⟩
    rw [ignitiontop_sameVariant.l0, if_neg (by omega)]
  | succ d ih =>
    intro i hi k hk
    obtain ⟨k, rfl⟩ : ∃ k', k = k' + 1 := ⟨k - 1, by omega⟩
    rw [ignitiontop_sameVariant.l0, if_pos (by omega), if_pos (by omega), if_pos (by omega), if_neg (by simp), wr_s i (by omega)]
    exact ih (i + 1) (by omega) k (by omega)
theorem same_f (x : List Bool) (hl : x.length ≤ 50) : ignitiontop_sameVariant.f 100 x x = some true := by
  unfold ignitiontop_sameVariant.f
  rw [if_pos rfl]
  have h := same_l0 x hl x.length 0 (by omega) 100 (by omega)
  rw [Int.natCast_zero] at h
  exact h
theorem bools_f (x : List Bool) (hl : x.length ≤ 50) : ignitiontop_bools.f x = some x := by
  unfold ignitiontop_bools.f
  rw [Option.bind_some, if_pos (by simp; omega), List.nil_append]
/-- One step of the way: the next node, the beginning of the variant, the cells. -/
theorem first_step {N : Nat} {Ks : List Kn} (hw : WF N Ks) {q : Nat} {k : Kn} (h2 : 2 ≤ q) (hk : Ks[q]? = some k) {p t : List Bool} (hp : p.length = lv Ks q) (hf : fst Ks N (N - lv Ks q) q p = t) :
    ∃ q' p', q' = (if k.l = 0 then k.h else k.l) ∧ q' ≠ 0 ∧ q' < Ks.length ∧ p'.length = lv Ks q' ∧ fst Ks N (N - lv Ks q') q' p' = t ∧ (k.l = 0 → (fbs p (N - lv Ks q)).setIfInBounds k.o (.bool true) = fbs p' (N - lv Ks q')) ∧ (k.l ≠ 0 → fbs p (N - lv Ks q) = fbs p' (N - lv Ks q')) ∧ (k.l = 0 ↔ wy Ks k.l = 0) := by
  obtain ⟨b0, b1, b2, b3, b4, b5⟩ := hw.kn q k h2 hk
  have hlt := (List.getElem?_eq_some_iff.1 hk).1
  obtain ⟨q', hq', hq0, he⟩ := fst_knot hw h2 hk p
  rw [lv_of hk] at hp
  have hql : q' < Ks.length ∧ k.o < lv Ks q' := by
    rw [hq']
    split
    · exact ⟨by omega, b5⟩
    · exact ⟨by omega, b4⟩
  have hle := hw.lv_le hql.1
  refine ⟨q', _, hq', hq0, hql.1, ?_, he.symm.trans hf, fun h0 => ?_, fun h0 => ?_, ?_⟩
  · simp
    omega
  · obtain ⟨m, hm⟩ : ∃ m, N - lv Ks q = m + 1 := ⟨N - lv Ks q - 1, by rw [lv_of hk]; omega⟩
    rw [hm, ← hp, fbs_set, decide_eq_true h0, fbs_rep]
    congr 1
    rw [lv_of hk] at hm
    omega
  · obtain ⟨m, hm⟩ : ∃ m, N - lv Ks q = m + 1 := ⟨N - lv Ks q - 1, by rw [lv_of hk]; omega⟩
    rw [hm, decide_eq_false h0, fbs_rep]
    have : fbs (p ++ [false]) m = fbs p (1 + m) := fbs_rep p 1 m
    rw [lv_of hk] at hm
    rw [show lv Ks q' - (k.o + 1) + (N - lv Ks q') = m by omega, this]
    congr 1
    omega
  · constructor
    · intro h
      rw [h, wy_0]
    · intro h
      rcases Nat.eq_zero_or_pos k.l with h0 | h0
      · exact h0
      · have := wy_pos hw k.l (by omega) (by omega)
        omega
/-- A number that stands for a knot. -/
theorem en_knot {N : Nat} {Ks : List Kn} {idx : List Nat} {R : List Kr} (hw : WF N Ks) (hk : Rk Ks idx R) {j q : Nat} (he : En idx (j : Int) q) : ∃ (k : Kn) (r : Kr), idx[j]? = some q ∧ 2 ≤ q ∧ Ks[q]? = some k ∧ R[j]? = some r ∧ r.o = k.o ∧ r.o < N ∧ En (idx.take j) r.l k.l ∧ En (idx.take j) r.h k.h ∧ -2 ≤ r.l ∧ r.l < j ∧ -2 ≤ r.h ∧ r.h < j := by
  rcases he with h | h | ⟨j', h1, h2⟩
  · omega
  · omega
  · obtain rfl : j = j' := by omega
    have hjl := (List.getElem?_eq_some_iff.1 h2).1
    obtain ⟨r, hr⟩ : ∃ r, R[j]? = some r := ⟨_, List.getElem?_eq_getElem (by rw [hk.len]; exact hjl)⟩
    obtain ⟨n', k', b1, b2, b3, b4, b5, b6⟩ := hk.kn j r hr
    rw [h2] at b1
    cases b1
    obtain ⟨_, _, _, _, _, g3, _, _, _, _, _, _, _, _, _, g13, g14, g15, g16⟩ := knot_ways hw hk hr
    exact ⟨k', r, h2, b2, b3, hr, b4, g3, b5, b6, g13, g14, g15, g16⟩
theorem En.lt {N : Nat} {Ks : List Kn} {idx : List Nat} {R : List Kr} (hk : Rk Ks idx R) (hw : WF N Ks) {y : Int} {q : Nat} (h : En idx y q) : q < Ks.length := by
  have h2 := hw.two
  rcases h with ⟨_, h⟩ | ⟨_, h⟩ | ⟨j, _, h⟩
  · omega
  · omega
  · have hj := (List.getElem?_eq_some_iff.1 h).1
    obtain ⟨r, hr⟩ : ∃ r, R[j]? = some r := ⟨_, List.getElem?_eq_getElem (by rw [hk.len]; exact hj)⟩
    obtain ⟨n', k', b1, _, b3, _⟩ := hk.kn j r hr
    rw [h] at b1
    cases b1
    exact (List.getElem?_eq_some_iff.1 b3).1
theorem En.whole {idx : List Nat} {j : Nat} {y : Int} {q : Nat} (h : En (idx.take j) y q) : En idx y q := by
  have := h.ext (idx.drop j)
  rwa [List.take_append_drop] at this
end Go.Proofs.Ytiglkpgoakibaaa
namespace Go.Proofs.Ytiglkpgoakibaaa
open Go.RowKit Go.Maps PTopKnots Go.Proofs.YtiglkpgoakibaaaW.PrintWords
set_option linter.unusedVariables false
set_option linter.unusedSimpArgs false

theorem RdF_C {w : World} {A : Option Addr} {g off : Nat} {f : List Int} (h : RdF w A g off f) (hl : f.length ≤ 1000) : Kd.C (Kd.int .i64) w A f.length f := by
  refine ⟨rfl, by omega, fun h0 => ⟨_, h.hA h0, fun j p hj => ⟨[.int .i64 p], rfl, rfl, fun i u hu => ?_⟩⟩⟩
  have hi := (List.getElem?_eq_some_iff.1 hu).1
  obtain rfl : i = 0 := by simp at hi; exact hi
  cases hu
  have e : (⟨g, off, none⟩ : Addr).add (j * (Kd.int .i64).sz + 0) = ⟨g, off + j, none⟩ := by
    have : (Kd.int .i64).sz = 1 := rfl
    rw [this, addr_add]
    simp
  rw [e]
  exact h.hc j p hj
theorem own_formN {w : World} {base l : Nat} {ok : Nat → Prop} (f : List Int) (v : Value) (hl : f.length = l) (h : Kd.R (Kd.int .i64) 3 w base ok v ([-3] ++ f)) : ∃ (A : Option Addr) (c : Nat), v = .slice A (l + 1) c ∧ l + 1 ≤ c ∧ Kd.C (Kd.int .i64) w A (-3 :: f).length (-3 :: f) := by
  subst hl
  obtain ⟨A, c, he, hc, hC⟩ := Kd.R_reads h
  exact ⟨A, c, he, hc, hC⟩
theorem boolsC {W : World} {Au : Option Addr} {cu m : Nat} {x : List Bool} (h : Kd.C Kd.bool W Au x.length x) (hl : x.length = m) (hc : x.length ≤ cu) (hm : m ≤ 50) :
    Calls Try.prog 14 #[.slice Au m cu] W fun e w' => ∃ (A : Option Addr) (c g o : Nat), e = .returned (.slice A m c) ∧ Below W.heap.size W w' ∧ RdB w' A g o x := by
  subst hl
  refine (ignitiontop_bools.calls Au cu x x W h hc (bools_f x hm)).mono ?_
  rintro e w' ⟨v, rfl, hR, hb⟩
  obtain ⟨A, c, rfl, _, hC⟩ := Kd.R_reads hR
  obtain ⟨g, o, hr⟩ := C_RdB hC
  exact ⟨A, c, g, o, rfl, hb, hr⟩
theorem fbs_RdB {w : World} {g : Nat} {x : List Bool} (h : w.heap[g]? = some (.cells (fbs x 0) 4 (0, 0))) : RdB w (some ⟨g, 0, none⟩) g 0 x :=
  ⟨fun _ => rfl, fun j b hb => by
    rw [Nat.zero_add, blk_cell' h j]
    exact fbs_get x j b hb⟩
theorem fbs_C {w : World} {g : Nat} {x : List Bool} (hl : x.length ≤ 1000) (h : w.heap[g]? = some (.cells (fbs x 0) 4 (0, 0))) : Kd.C Kd.bool w (some ⟨g, 0, none⟩) x.length x := C_cells hl h (fun j b hb => fbs_get x j b hb)
section
variable {W : World} {m q l b5 oc0 oc1 : Nat} {O0 O1 AF : Option Addr} {ns : List ByteArray} {rs : List (List Int)} {f : List Int}
theorem L8.mee_not (h : L8 W m q l b5 O0 oc0 O1 oc1 AF ns rs f) {A' : Option Addr} {c' : Nat} (hC : Kd.C (Kd.int .i64) W A' (-3 :: f).length (-3 :: f)) {pn : Bool} (hp : decide (0 < (SF m rs (-3 :: f)).length) = pn) :
    Calls Try.prog 10 #[.agg #[.slice O0 m oc0, .slice O1 q oc1], .slice (some ⟨W.heap.size, 0, none⟩) 1 1] (W.alloc (.cells #[.slice A' (l + 1) c'] 27)) fun e w' => ∃ (A : Option Addr) (lv c : Nat), e = .returned (.tuple #[.slice A lv c, .bool pn, .int .i64 0]) ∧ Below W.heap.size W w' ∧
      (pn = true → ∃ (x : List Bool) (g : Nat), qsem rs f (vf x) = false ∧ x.length = m ∧ lv = m ∧ A = some ⟨g, 0, none⟩ ∧ RdB w' (some ⟨g, 0, none⟩) g 0 x) := by
  obtain ⟨g, off, h1, h2⟩ := C_RdF hC
  have hv : Vd m (-3 :: f) := by
    have h40 := h.f40
    have := h.vd.not (by rw [h.fl]; omega)
    rw [h.n] at this
    exact this
  have hc := h.mee (c' := c') (l' := l + 1) hv h1 (h2 (by simp)) (by rw [List.length_cons, h.fl])
  refine hc.mono ?_
  rintro e w' ⟨A, lv, c, rfl, hb, hx⟩
  refine ⟨A, lv, c, by rw [hp], hb, fun ht => ?_⟩
  obtain ⟨x, g', a1, a2, a3, _, a4, _, a6⟩ := hx (of_decide_eq_true (hp.trans ht))
  exact ⟨x, g', SF_not (List.mem_of_mem_head? (by rw [a1]; rfl)), a2, a3, a4, fbs_RdB a6⟩
end
end Go.Proofs.Ytiglkpgoakibaaa
