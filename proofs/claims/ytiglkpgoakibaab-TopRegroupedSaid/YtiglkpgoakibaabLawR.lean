/- The law TopRegrouped: for every input it returns true, and each argument reads behind the call as it read before. No condition. -/
import Derived.Test.YtiglkpgoakibaabRows
import Derived.Test.YtiglkpgoakibaabLawA
import Derived.WalkKit
import Derived.ProofKit
import Derived.OpenShut
import Derived.ChangeOld
import Derived.Below
import Derived.Deep.Slices
import Derived.Deep.Fields
import Derived.ChangeSame
import Derived.Lib.SmallJoins
namespace Go.Proofs.Ytiglkpgoakibaab
open Go.RowKit Go.Shelf PTopRegrouped Go.Proofs.YtiglkpgoakibaabW.PrintWords Go.Proofs.YtiglkpgoakibaabW.PrintLast

theorem law_any (G H : Int) {A : Option Addr} {c : Nat} {la : List S31} (hlc : la.length ≤ c) (hbig : la.length ≤ 9223372036854775807) (w : World)
    (ha : la.length = 0 ∨ ∃ b off, A = some ⟨b, off, none⟩ ∧ ∀ (k : Nat) (x : S31), la[k]? = some x → ∀ i u, (scells x)[i]? = some u → w.cell? ⟨b, off + k * 5 + i, none⟩ = some u)
    {Al : Option Addr} {lc : Nat} {ls : List Ng} (hll : ls.length ≤ lc)
    (hl : ls.length = 0 ∨ ∃ b off, Al = some ⟨b, off, none⟩ ∧ ∀ (k : Nat) (x : Ng), ls[k]? = some x → ∀ i u, x.cells[i]? = some u → w.cell? ⟨b, off + k * 4 + i, none⟩ = some u)
    (T need : Int) (nd gp : Int) (hnd : (Lit.int .u8 nd).wf = true) (hgp : (Lit.int .u8 gp).wf = true) :
    Calls Try.prog 3 #[.agg #[.int .i64 G, .int .i64 H, .slice A la.length c], .slice Al ls.length lc, .int .i64 T, .int .u8 nd, .int .u8 gp, .int .i64 need] w fun e w' => e = .returned (.bool true) ∧ Below w.heap.size w w' := by
  have hn : 0 ≤ nd ∧ nd < 256 := by
    have h : IntKind.u8.min ≤ nd ∧ nd ≤ IntKind.u8.max := by simpa [Lit.wf] using hnd
    have e1 : IntKind.u8.min = 0 := by decide
    have e2 : IntKind.u8.max = 255 := by decide
    omega
  have hg : 0 ≤ gp ∧ gp < 256 := by
    have h : IntKind.u8.min ≤ gp ∧ gp ≤ IntKind.u8.max := by simpa [Lit.wf] using hgp
    have e1 : IntKind.u8.min = 0 := by decide
    have e2 : IntKind.u8.max = 255 := by decide
    omega
  obtain ⟨n1, rfl⟩ := Int.eq_ofNat_of_zero_le hn.1
  obtain ⟨g1, rfl⟩ := Int.eq_ofNat_of_zero_le hg.1
  by_cases h : clB G H la = true ∧ la.length ≤ 6 ∧ ls.length ≤ 60 ∧ T ≤ 60
  · obtain ⟨h1, h2, h3, h4⟩ := h
    have hk := clOk_iff.1 h1
    obtain ⟨g, rfl⟩ := Int.eq_ofNat_of_zero_le (show 0 ≤ G by have := hk.G0; omega)
    obtain ⟨hold, rfl⟩ := Int.eq_ofNat_of_zero_le (show 0 ≤ H by have := hk.H0; omega)
    rcases Nat.eq_zero_or_pos ls.length with h0 | h0
    · exact law_in hk h2 hlc w (clW_of ha) Al 0 0 lc ls h3 hll (fun hh => by omega) (fun k x hx => by have := (List.getElem?_eq_some_iff.1 hx).1; omega) T need h4 n1 g1 (by omega) (by omega)
    · rcases hl with hl | ⟨b, off, hA, hc⟩
      · omega
      · exact law_in hk h2 hlc w (clW_of ha) Al b off lc ls h3 hll (fun _ => hA) hc T need h4 n1 g1 (by omega) (by omega)
  · exact law_out G H hlc hbig w (clW_of ha) Al lc ls.length T need n1 g1 h
end Go.Proofs.Ytiglkpgoakibaab

namespace Go.Proofs.Ytiglkpgoakibaab.topRegrouped
open Go.ChangeShapes Go.WideShapes Go.ChangeAt Go.RowKit Go.Deep Go.Joins
open Go.Proofs.Ytiglkpgoakibaab.PTopRegrouped
set_option linter.unusedVariables false

section
variable {H : Type} {enc : TypeId × Value → H} {P : Program} {w : World} {base : Nat} {spare : Nat → Bool} {held : Bool}
theorem open_slice_fields {t e : TypeId} {fs : Array Field} {fuel : Nat} {cs : List Value} {x : DataW H × List MemPlace} (ht : P.underlying t = some (.slice e)) (he : P.underlying e = some (.struct fs))
    (hone : oneCellFields P fs = true) (hC : P.cellsOf e = fs.size) (h : DataW.trod enc P w base spare held fuel t cs = some x) :
    (cs = [.slice none 0 0] ∧ x = (.nil, [])) ∨
    ∃ (a : Addr) (len cap m : Nat), cs = [.slice (some a) len cap] ∧ len ≤ cap ∧ cap ≤ maxLen ∧ m = (if spare a.block then cap else len) ∧
      ∀ i, i < m → ∀ (j : Nat) (f : Field), fs[j]? = some f → ∃ (v : Value) (n : Nat) (y : DataW H × List MemPlace), w.cell? (a.add (i * fs.size + j)) = some v ∧ DataW.trod enc P w base spare held n f.type [v] = some y := by
  rcases open_slice ht h with h0 | ⟨a, len, cap, m, n, D, Pl, hcs, hb, hl, hm, hmm, hx, hi⟩
  · exact .inl h0
  · refine .inr ⟨a, len, cap, m, hcs, hl, hm, hmm, fun i him j f hj => ?_⟩
    obtain ⟨cs', hc, ht'⟩ := hi i him
    rw [hC] at hc
    obtain ⟨ys, n', hn', hy, hlen, hyl, hf⟩ := DataW.trod_struct he ht'
    obtain ⟨_, hcl, hat⟩ := World.cells?_some hc
    obtain ⟨ho, hk⟩ := hone_of hone j f hj
    have hjl : j < fs.size := (Array.getElem?_eq_some_iff.1 hj).1
    have hcell := hat j hjl
    have hv : cs'[j]? = some (cs'[j]'(by omega)) := List.getElem?_eq_getElem (by omega)
    have h1 := hf j f hj
    rw [ho, hk] at h1
    have hone' : (cs'.drop j).take 1 = [cs'[j]'(by omega)] := by
      rw [List.drop_eq_getElem_cons (by omega)]
      rfl
    rw [hone'] at h1
    have hys : ys[j]? = some (ys[j]'(by omega)) := List.getElem?_eq_getElem (by omega)
    refine ⟨_, n', _, ?_, h1.trans hys⟩
    rw [← Go.Deep.add_add, hcell, hv]
end
theorem own : ownKnob Try.prog.godebug = none := by kernel_rfl
theorem laidOut : laidOutB Try.prog = true := by kernel_rfl
theorem cell_spot {w : World} {a : Addr} {v : Value} (h : w.cell? a = some v) : a = ⟨a.block, a.off, none⟩ := by
  obtain ⟨b, o, s⟩ := a
  cases s with
  | none => rfl
  | some s =>
    unfold World.cell? at h
    split at h <;> simp at h
theorem list_of {α : Type} (n : Nat) (Q : Nat → α → Prop) (h : ∀ i, i < n → ∃ x, Q i x) : ∃ l : List α, l.length = n ∧ ∀ i x, l[i]? = some x → Q i x := by
  induction n with
  | zero => exact ⟨[], rfl, fun i x hx => by simp at hx⟩
  | succ n ih =>
    obtain ⟨l, hl, hq⟩ := ih (fun i hi => h i (by omega))
    obtain ⟨y, hy⟩ := h n (by omega)
    refine ⟨l ++ [y], by simp [hl], fun i x hx => ?_⟩
    rcases Nat.lt_or_ge i n with h1 | h1
    · rw [List.getElem?_append_left (by omega)] at hx
      exact hq i x hx
    · rw [List.getElem?_append_right (by omega)] at hx
      have h2 := (List.getElem?_eq_some_iff.1 hx).1
      simp at h2
      obtain rfl : i = n := by omega
      simp [hl] at hx
      subst hx
      exact hy
section
variable {H : Type} {enc : TypeId × Value → H} {w : World}
theorem open_nodes {fuel : Nat} {cs : List Value} {x : DataW H × List MemPlace} (h : DataW.trod enc Try.prog w 0 (fun _ => true) true fuel 22 cs = some x) :
    ∃ (A : Option Addr) (c : Nat) (la : List S31), cs = [.slice A la.length c] ∧ la.length ≤ c ∧ la.length ≤ 9223372036854775807 ∧
      (la.length = 0 ∨ ∃ b off, A = some ⟨b, off, none⟩ ∧ ∀ (k : Nat) (x : S31), la[k]? = some x → ∀ i u, (scells x)[i]? = some u → w.cell? ⟨b, off + k * 5 + i, none⟩ = some u) := by
  rcases open_slice_fields Try.underlying22 Try.underlying31 (by kernel_rfl) (by kernel_rfl) h with ⟨rfl, _⟩ | ⟨a, len, cap, m, rfl, hl, hm, hmm, hi⟩
  · exact ⟨none, 0, [], rfl, Nat.le_refl _, by simp, .inl rfl⟩
  · rw [if_pos rfl] at hmm
    subst hmm
    have hint : ∀ i, i < len → ∀ j, j < 5 → ∃ z : Int, w.cell? (a.add (i * 5 + j)) = some (.int .i64 z) := fun i hil j hj => by
      have h5 : j = 0 ∨ j = 1 ∨ j = 2 ∨ j = 3 ∨ j = 4 := by omega
      rcases h5 with rfl | rfl | rfl | rfl | rfl
      · obtain ⟨v, k, y, hc, ht⟩ := hi i (by omega) 0 _ rfl
        obtain ⟨z, hz, _⟩ := DataW.trod_int (k := .i64) Try.underlying3 ht
        cases hz
        exact ⟨z, hc⟩
      · obtain ⟨v, k, y, hc, ht⟩ := hi i (by omega) 1 _ rfl
        obtain ⟨z, hz, _⟩ := DataW.trod_int (k := .i64) Try.underlying3 ht
        cases hz
        exact ⟨z, hc⟩
      · obtain ⟨v, k, y, hc, ht⟩ := hi i (by omega) 2 _ rfl
        obtain ⟨z, hz, _⟩ := DataW.trod_int (k := .i64) Try.underlying3 ht
        cases hz
        exact ⟨z, hc⟩
      · obtain ⟨v, k, y, hc, ht⟩ := hi i (by omega) 3 _ rfl
        obtain ⟨z, hz, _⟩ := DataW.trod_int (k := .i64) Try.underlying3 ht
        cases hz
        exact ⟨z, hc⟩
      · obtain ⟨v, k, y, hc, ht⟩ := hi i (by omega) 4 _ rfl
        obtain ⟨z, hz, _⟩ := DataW.trod_int (k := .i64) Try.underlying3 ht
        cases hz
        exact ⟨z, hc⟩
    obtain ⟨la, hla, hq⟩ := list_of (α := S31) len (fun i s => ∀ j u, (scells s)[j]? = some u → w.cell? (a.add (i * 5 + j)) = some u) (fun i hil => by
      obtain ⟨z0, h0⟩ := hint i hil 0 (by omega)
      obtain ⟨z1, h1⟩ := hint i hil 1 (by omega)
      obtain ⟨z2, h2⟩ := hint i hil 2 (by omega)
      obtain ⟨z3, h3⟩ := hint i hil 3 (by omega)
      obtain ⟨z4, h4⟩ := hint i hil 4 (by omega)
      refine ⟨⟨z0, z1, z2, z3, z4⟩, fun j u hu => ?_⟩
      have hj := (List.getElem?_eq_some_iff.1 hu).1
      change j < 5 at hj
      have h5 : j = 0 ∨ j = 1 ∨ j = 2 ∨ j = 3 ∨ j = 4 := by omega
      rcases h5 with rfl | rfl | rfl | rfl | rfl <;> cases hu <;> assumption)
    subst hla
    refine ⟨some a, m, la, rfl, hl, by simp only [maxLen] at hm; omega, ?_⟩
    rcases Nat.eq_zero_or_pos la.length with h0 | h0
    · exact .inl h0
    · have hsp := hq 0 _ (List.getElem?_eq_getElem h0) 0 _ rfl
      have hb := cell_spot (show w.cell? a = some _ from hsp)
      refine .inr ⟨a.block, a.off, by rw [← hb], fun k x hx i u hu => ?_⟩
      have h1 := hq k x hx i u hu
      rw [hb] at h1
      rw [Nat.add_assoc, ← add_off]
      exact h1
theorem open_nudges {fuel : Nat} {cs : List Value} {x : DataW H × List MemPlace} (h : DataW.trod enc Try.prog w 0 (fun _ => true) true fuel 25 cs = some x) :
    ∃ (A : Option Addr) (c : Nat) (la : List Ng), cs = [.slice A la.length c] ∧ la.length ≤ c ∧
      (la.length = 0 ∨ ∃ b off, A = some ⟨b, off, none⟩ ∧ ∀ (k : Nat) (x : Ng), la[k]? = some x → ∀ i u, x.cells[i]? = some u → w.cell? ⟨b, off + k * 4 + i, none⟩ = some u) := by
  rcases open_slice_fields Try.underlying25 Try.underlying33 (by kernel_rfl) (by kernel_rfl) h with ⟨rfl, _⟩ | ⟨a, len, cap, m, rfl, hl, hm, hmm, hi⟩
  · exact ⟨none, 0, [], rfl, Nat.le_refl _, .inl rfl⟩
  · rw [if_pos rfl] at hmm
    subst hmm
    have hint : ∀ i, i < len → ∀ j, j < 4 → ∃ z : Int, w.cell? (a.add (i * 4 + j)) = some (.int .i64 z) := fun i hil j hj => by
      have h5 : j = 0 ∨ j = 1 ∨ j = 2 ∨ j = 3 := by omega
      rcases h5 with rfl | rfl | rfl | rfl
      · obtain ⟨v, k, y, hc, ht⟩ := hi i (by omega) 0 _ rfl
        obtain ⟨z, hz, _⟩ := DataW.trod_int (k := .i64) Try.underlying3 ht
        cases hz
        exact ⟨z, hc⟩
      · obtain ⟨v, k, y, hc, ht⟩ := hi i (by omega) 1 _ rfl
        obtain ⟨z, hz, _⟩ := DataW.trod_int (k := .i64) Try.underlying3 ht
        cases hz
        exact ⟨z, hc⟩
      · obtain ⟨v, k, y, hc, ht⟩ := hi i (by omega) 2 _ rfl
        obtain ⟨z, hz, _⟩ := DataW.trod_int (k := .i64) Try.underlying3 ht
        cases hz
        exact ⟨z, hc⟩
      · obtain ⟨v, k, y, hc, ht⟩ := hi i (by omega) 3 _ rfl
        obtain ⟨z, hz, _⟩ := DataW.trod_int (k := .i64) Try.underlying3 ht
        cases hz
        exact ⟨z, hc⟩
    obtain ⟨la, hla, hq⟩ := list_of (α := Ng) len (fun i s => ∀ j u, s.cells[j]? = some u → w.cell? (a.add (i * 4 + j)) = some u) (fun i hil => by
      obtain ⟨z0, h0⟩ := hint i hil 0 (by omega)
      obtain ⟨z1, h1⟩ := hint i hil 1 (by omega)
      obtain ⟨z2, h2⟩ := hint i hil 2 (by omega)
      obtain ⟨z3, h3⟩ := hint i hil 3 (by omega)
      refine ⟨⟨z0, z1, z2, z3⟩, fun j u hu => ?_⟩
      have hj := (List.getElem?_eq_some_iff.1 hu).1
      change j < 4 at hj
      have h5 : j = 0 ∨ j = 1 ∨ j = 2 ∨ j = 3 := by omega
      rcases h5 with rfl | rfl | rfl | rfl <;> cases hu <;> assumption)
    subst hla
    refine ⟨some a, m, la, rfl, hl, ?_⟩
    rcases Nat.eq_zero_or_pos la.length with h0 | h0
    · exact .inl h0
    · have hsp := hq 0 _ (List.getElem?_eq_getElem h0) 0 _ rfl
      have hb := cell_spot (show w.cell? a = some _ from hsp)
      refine .inr ⟨a.block, a.off, by rw [← hb], fun k x hx i u hu => ?_⟩
      have h1 := hq k x hx i u hu
      rw [hb] at h1
      rw [Nat.add_assoc, ← add_off]
      exact h1
end

set_option maxRecDepth 100000 in
theorem lifted (os : Os) (started : os.Started) (H : Type) (enc : TypeId × Value → H) :
    ReturnsInHanded {} Try.checked os 3 .any (Rows.topRegroupedSpec.pre6 enc Try.prog Try.f3 Rows.topRegroupedRow.domain false) (Rows.topRegroupedSpec.post enc Try.prog Try.f3 false true false false) := by
  refine returnsInHanded_of_change (C := Try.checked) own started (by kernel_rfl) Try.func3
    (ChangeSpec.witness6 (enc := enc) (C := Try.checked) false ⟨#[], #[.agg #[.int .i64 0, .int .i64 0, .slice none 0 0], .slice none 0 0, .int .i64 0, .int .u8 0, .int .u8 0, .int .i64 0], []⟩ 8 (by kernel_rfl) (by kernel_rfl) (by kernel_rfl) (by kernel_rfl)) ?_
  intro W base args ds gs before hval0 hW hcnd _
  have hval : ∀ (j : Nat) t v, Try.f3.params[j]? = some t → args[j]? = some v → Value.okWide Try.prog W .any base t v := hval0
  have hW' := hW
  obtain ⟨p, q, hA0, hV, rfl, hfz, hnd⟩ := hW
  have hA : DataW.TrodAll enc Try.prog W 0 (fun _ => true) true Try.f3.params.toList args.toList ds p := hA0
  rw [Try.params3] at hA hval
  obtain ⟨v0, vs0, d0, ds0, p0, q0, hargs, rfl, rfl, h0, r0⟩ := trodAll_cons hA
  obtain ⟨v1, vs1, d1, ds1, p1, q1, rfl, rfl, rfl, h1, r1⟩ := trodAll_cons r0
  obtain ⟨v2, vs2, d2, ds2, p2, q2, rfl, rfl, rfl, h2, r2⟩ := trodAll_cons r1
  obtain ⟨v3, vs3, d3, ds3, p3, q3, rfl, rfl, rfl, h3, r3⟩ := trodAll_cons r2
  obtain ⟨v4, vs4, d4, ds4, p4, q4, rfl, rfl, rfl, h4, r4⟩ := trodAll_cons r3
  obtain ⟨v5, vs5, d5, ds5, p5, q5, rfl, rfl, rfl, h5, r5⟩ := trodAll_cons r4
  obtain ⟨rfl, rfl, rfl⟩ := trodAll_nil r5
  obtain rfl : args = #[v0, v1, v2, v3, v4, v5] := by cases args; simp_all
  obtain ⟨rfl, rfl⟩ := trodVars_none hV
  have k0 := h0
  have k1 := h1
  have lt0 : ∀ x ∈ p0, x.block < W.heap.size := by obtain ⟨m, hm⟩ := k0; exact DataW.trod_lt m _ _ _ hm
  have lt1 : ∀ x ∈ p1, x.block < W.heap.size := by obtain ⟨m, hm⟩ := k1; exact DataW.trod_lt m _ _ _ hm
  obtain ⟨c0, c1, c2, y0, y1, y2, n0, rfl, _, _, t0, t1, t2⟩ := open_agg3 Try.underlying24 (by kernel_rfl) (by kernel_rfl) (hval 0 24 v0 rfl rfl) h0
  obtain ⟨G, hG, _⟩ := DataW.trod_int (k := .i64) Try.underlying3 t0
  obtain ⟨Hd, hH, _⟩ := DataW.trod_int (k := .i64) Try.underlying3 t1
  obtain ⟨A, c, la, hs, hlc, hbig, hcl⟩ := open_nodes t2
  cases hG
  cases hH
  cases hs
  obtain ⟨al, len1, cap1, rfl⟩ := okWide_slice Try.underlying25 (hval 1 25 v1 rfl rfl)
  obtain ⟨Al, lc, ls, hs1, hll, hng⟩ : ∃ (A : Option Addr) (c : Nat) (la : List Ng), [Value.slice al len1 cap1] = [.slice A la.length c] ∧ la.length ≤ c ∧
      (la.length = 0 ∨ ∃ b off, A = some ⟨b, off, none⟩ ∧ ∀ (k : Nat) (x : Ng), la[k]? = some x → ∀ i u, x.cells[i]? = some u → W.cell? ⟨b, off + k * 4 + i, none⟩ = some u) := by
    obtain ⟨fuel, hf⟩ := h1
    exact open_nudges (by simpa [Value.cells] using hf)
  cases hs1
  obtain ⟨T, rfl, rfl, rfl, w2⟩ := open_int Try.underlying3 (hval 2 3 v2 rfl rfl) h2
  obtain ⟨nd, rfl, rfl, rfl, w3⟩ := open_int Try.underlying5 (hval 3 5 v3 rfl rfl) h3
  obtain ⟨gp, rfl, rfl, rfl, w4⟩ := open_int Try.underlying5 (hval 4 5 v4 rfl rfl) h4
  obtain ⟨need, rfl, rfl, rfl, w5⟩ := open_int Try.underlying3 (hval 5 3 v5 rfl rfl) h5
  clear hA0 hval0
  refine (law_any G Hd hlc hbig W hcl hll hng T need nd gp w3 w4).mono fun e W' ⟨he, bel⟩ => ?_
  subst he
  exact ⟨_, rfl, _, _, _, [], _, [], hW', trodAll_mk1 (shut_bool Try.underlying4 _),
    (trodAll_cons_mk (Below.trod laidOut (by kernel_rfl) (of_decide_eq_true (by kernel_rfl)) k0 bel lt0)
    (trodAll_cons_mk (Below.trod laidOut (by kernel_rfl) (of_decide_eq_true (by kernel_rfl)) k1 bel lt1)
    (trodAll_cons_mk (shut_int Try.underlying3 w2) (trodAll_cons_mk (shut_int Try.underlying5 w3) (trodAll_cons_mk (shut_int Try.underlying5 w4) (trodAll_cons_mk (shut_int Try.underlying3 w5) trodAll_mk0)))))), rfl, bel.frame _, fun h => by cases h⟩
theorem over : Rows.topRegroupedRow.holds Try.pinned (OpenSpec.ofChange Rows.topRegroupedSpec) :=
  OpenClaim.holds_of_wide 3 Try.f3 rfl rfl rfl rfl rfl rfl rfl ⟨rfl, rfl, rfl, rfl, rfl⟩ rfl rfl rfl rfl rfl (by kernel_rfl) Try.func3 (by kernel_rfl)
    (of_decide_eq_true (by kernel_rfl)) (by unfold Func.isWrapper; first | (rw [if_pos (by decide +kernel)]; kernel_rfl) | (rw [if_neg (by decide +kernel)]; exact ⟨rfl, rfl⟩))
    (fun os started H enc _ => lifted os started H enc)
end Go.Proofs.Ytiglkpgoakibaab.topRegrouped
namespace Go.Proofs.Ytiglkpgoakibaab
/-- The row, under a short name, for the claim. -/
theorem topRegrouped_holds : Rows.TopRegroupedSaid := topRegrouped.over
#print axioms topRegrouped_holds
end Go.Proofs.Ytiglkpgoakibaab
