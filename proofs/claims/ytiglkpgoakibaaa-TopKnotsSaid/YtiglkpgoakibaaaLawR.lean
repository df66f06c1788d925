/- The law TopKnots: for every input it returns true, and each argument reads behind the call as it read before. No condition. -/
import Derived.Test.YtiglkpgoakibaaaRows
import Derived.Test.YtiglkpgoakibaaaLawI
import Derived.WalkKit
import Derived.ProofKit
import Derived.OpenShut
import Derived.ChangeOld
import Derived.Below
import Derived.Deep.Slices
import Derived.Deep.Fields
import Derived.ChangeSame
import Derived.Lib.SmallJoins
namespace Go.Proofs.Ytiglkpgoakibaaa
open Go.RowKit Go.Maps PTopKnots Go.Proofs.YtiglkpgoakibaaaW.PrintWords
set_option linter.unusedSimpArgs false

theorem law_any {w : World} {A0 A1 Af : Option Addr} {c0 c1 cf : Nat} {ns : List ByteArray} {rs : List (List Int)} {f : List Int} (h0 : Kd.C Kd.string w A0 ns.length ns) (hc0 : ns.length ≤ c0) (h1 : Kd.C (Kd.slice 3 (Kd.int .i64)) w A1 rs.length rs) (hc1 : rs.length ≤ c1)
    (hf : Kd.C (Kd.int .i64) w Af f.length f) (hcf : f.length ≤ cf) :
    Calls Try.prog 3 #[.agg #[.slice A0 ns.length c0, .slice A1 rs.length c1], .slice Af f.length cf] w fun e w' => e = .returned (.bool true) ∧ Below w.heap.size w w' := by
  obtain ⟨r, hr, hrg⟩ := model_f ns rs
  obtain ⟨b, hb, hbv⟩ := valid_f f ns.length
  by_cases h : ns.length ≤ 10 ∧ rs.length ≤ 10 ∧ f.length ≤ 40 ∧ r = 0 ∧ b = true
  · obtain ⟨a1, a2, a3, a4, a5⟩ := h
    subst a4
    subst a5
    exact law_in h0 hc0 h1 hc1 hf hcf a1 a2 a3 hr (hb 403 (Nat.le_refl _)) (hrg rfl) (hbv rfl)
  · exact law_out h0 hc0 h1 hc1 hf hcf hr hb h
end Go.Proofs.Ytiglkpgoakibaaa

namespace Go.Proofs.Ytiglkpgoakibaaa.topKnots
open Go.ChangeShapes Go.WideShapes Go.ChangeAt Go.RowKit Go.Deep Go.Joins
set_option linter.unusedSimpArgs false
open Go.Proofs.Ytiglkpgoakibaaa.PTopKnots Go.Proofs.YtiglkpgoakibaaaW.PrintWords
set_option linter.unusedVariables false

theorem own : ownKnob Try.prog.godebug = none := by kernel_rfl
theorem laidOut : laidOutB Try.prog = true := by kernel_rfl
theorem list_of {α : Type} (n : Nat) (Q : Nat → α → Prop) (h : ∀ i, i < n → ∃ x, Q i x) : ∃ l : List α, l.length = n ∧ ∀ i x, l[i]? = some x → Q i x := by
  induction n with
  | zero => exact ⟨[], rfl, fun i x hx => by simp at hx⟩
  | succ n ih =>
    obtain ⟨l, hl, hq⟩ := ih (fun i hi => h i (by omega))
    obtain ⟨y, hy⟩ := h n (by omega)
    refine ⟨l ++ [y], by simp [hl], fun i x hx => ?_⟩
    rcases Nat.lt_or_ge i n with h1 | h1
    · rw [List.getElem?_append_left (by omega)] at hx
      exact hq i x hx
    · rw [List.getElem?_append_right (by omega)] at hx
      have h2 := (List.getElem?_eq_some_iff.1 hx).1
      simp at h2
      obtain rfl : i = n := by omega
      simp [hl] at hx
      subst hx
      exact hy
section
variable {H : Type} {enc : TypeId × Value → H} {w : World}
/-- A slice whose elements are of one cell, opened as a row of a kind. -/
theorem open_row {α : Type} (d : Kd α) (hd : d.sz = 1) {t e : TypeId} {fuel : Nat} {cs : List Value} {x : DataW H × List MemPlace} (ht : Try.prog.underlying t = some (.slice e)) (hc : Try.prog.cellsOf e = 1)
    (hel : ∀ (n : Nat) (v : Value) (y : DataW H × List MemPlace), DataW.trod enc Try.prog w 0 (fun _ => true) true n e [v] = some y → ∃ p : α, d.K w p [v])
    (h : DataW.trod enc Try.prog w 0 (fun _ => true) true fuel t cs = some x) : ∃ (A : Option Addr) (c : Nat) (l : List α), cs = [.slice A l.length c] ∧ l.length ≤ c ∧ d.C w A l.length l := by
  rcases open_slice1 ht hc h with ⟨rfl, _⟩ | ⟨a, len, cap, m, n, V, D, Pl, rfl, _, hl, hm, hmm, _, hi⟩
  · exact ⟨none, 0, [], rfl, Nat.le_refl _, rfl, Nat.zero_le _, fun h => absurd h (Nat.lt_irrefl 0)⟩
  · rw [if_pos rfl] at hmm
    subst hmm
    obtain ⟨l, hll, hq⟩ := list_of (α := α) len (fun i p => ∃ v, w.cell? (a.add i) = some v ∧ d.K w p [v]) (fun i hil => by
      obtain ⟨h1, h2⟩ := hi i (by omega)
      obtain ⟨p, hp⟩ := hel n _ _ h2
      exact ⟨p, _, h1, hp⟩)
    subst hll
    refine ⟨some a, m, l, rfl, hl, rfl, by simp only [maxLen] at hm; omega, fun _ => ⟨a, rfl, fun j p hj => ?_⟩⟩
    obtain ⟨v, h1, h2⟩ := hq j p hj
    refine ⟨[v], by rw [hd]; rfl, h2, fun i u hu => ?_⟩
    have hi0 := (List.getElem?_eq_some_iff.1 hu).1
    obtain rfl : i = 0 := by simp at hi0; exact hi0
    cases hu
    rw [hd, Nat.mul_one, Nat.add_zero]
    exact h1
theorem open_form {fuel : Nat} {cs : List Value} {x : DataW H × List MemPlace} (h : DataW.trod enc Try.prog w 0 (fun _ => true) true fuel 27 cs = some x) : ∃ (A : Option Addr) (c : Nat) (l : List Int), cs = [.slice A l.length c] ∧ l.length ≤ c ∧ Kd.C (Kd.int .i64) w A l.length l :=
  open_row (Kd.int .i64) rfl Try.underlying27 (by kernel_rfl) (fun n v y hy => by
    obtain ⟨z, hz, _⟩ := DataW.trod_int (k := .i64) Try.underlying3 hy
    exact ⟨z, hz⟩) h
theorem open_names {fuel : Nat} {cs : List Value} {x : DataW H × List MemPlace} (h : DataW.trod enc Try.prog w 0 (fun _ => true) true fuel 22 cs = some x) : ∃ (A : Option Addr) (c : Nat) (l : List ByteArray), cs = [.slice A l.length c] ∧ l.length ≤ c ∧ Kd.C Kd.string w A l.length l :=
  open_row Kd.string rfl Try.underlying22 (by kernel_rfl) (fun n v y hy => by
    obtain ⟨z, hz, _⟩ := DataW.trod_string Try.underlying9 hy
    exact ⟨z, hz⟩) h
theorem open_rules {fuel : Nat} {cs : List Value} {x : DataW H × List MemPlace} (h : DataW.trod enc Try.prog w 0 (fun _ => true) true fuel 23 cs = some x) : ∃ (A : Option Addr) (c : Nat) (l : List (List Int)), cs = [.slice A l.length c] ∧ l.length ≤ c ∧ Kd.C (Kd.slice 3 (Kd.int .i64)) w A l.length l :=
  open_row (Kd.slice 3 (Kd.int .i64)) rfl Try.underlying23 (by kernel_rfl) (fun n v y hy => by
    obtain ⟨A, c, l, hz, hl, hC⟩ := open_form hy
    exact ⟨l, A, c, hz, hl, hC⟩) h
end

set_option maxRecDepth 100000 in
theorem lifted (os : Os) (started : os.Started) (H : Type) (enc : TypeId × Value → H) :
    ReturnsInHanded {} Try.checked os 3 .any (Rows.topKnotsSpec.pre6 enc Try.prog Try.f3 Rows.topKnotsRow.domain false) (Rows.topKnotsSpec.post enc Try.prog Try.f3 false true false false) := by
  refine returnsInHanded_of_change (C := Try.checked) own started (by kernel_rfl) Try.func3
    (ChangeSpec.witness6 (enc := enc) (C := Try.checked) false ⟨#[], #[.agg #[.slice none 0 0, .slice none 0 0], .slice none 0 0], []⟩ 8 (by kernel_rfl) (by kernel_rfl) (by kernel_rfl) (by kernel_rfl)) ?_
  intro W base args ds gs before hval0 hW hcnd _
  have hval : ∀ (j : Nat) t v, Try.f3.params[j]? = some t → args[j]? = some v → Value.okWide Try.prog W .any base t v := hval0
  have hW' := hW
  obtain ⟨p, q, hA0, hV, rfl, hfz, hnd⟩ := hW
  have hA : DataW.TrodAll enc Try.prog W 0 (fun _ => true) true Try.f3.params.toList args.toList ds p := hA0
  rw [Try.params3] at hA hval
  obtain ⟨v0, vs0, d0, ds0, p0, q0, hargs, rfl, rfl, h0, r0⟩ := trodAll_cons hA
  obtain ⟨v1, vs1, d1, ds1, p1, q1, rfl, rfl, rfl, h1, r1⟩ := trodAll_cons r0
  obtain ⟨rfl, rfl, rfl⟩ := trodAll_nil r1
  obtain rfl : args = #[v0, v1] := by cases args; simp_all
  obtain ⟨rfl, rfl⟩ := trodVars_none hV
  have k0 := h0
  have k1 := h1
  have lt0 : ∀ x ∈ p0, x.block < W.heap.size := by obtain ⟨m, hm⟩ := k0; exact DataW.trod_lt m _ _ _ hm
  have lt1 : ∀ x ∈ p1, x.block < W.heap.size := by obtain ⟨m, hm⟩ := k1; exact DataW.trod_lt m _ _ _ hm
  obtain ⟨e0, e1, y0, y1, n0, rfl, _, _, t0, t1⟩ := open_agg2 Try.underlying25 (by kernel_rfl) (by kernel_rfl) (hval 0 25 v0 rfl rfl) h0
  obtain ⟨A0, c0, ns, hs0, hc0, hC0⟩ := open_names t0
  obtain ⟨A1, c1, rs, hs1, hc1, hC1⟩ := open_rules t1
  cases hs0
  cases hs1
  obtain ⟨al, len1, cap1, rfl⟩ := okWide_slice Try.underlying27 (hval 1 27 v1 rfl rfl)
  obtain ⟨Af, cf, f, hs2, hcf, hCf⟩ : ∃ (A : Option Addr) (c : Nat) (l : List Int), [Value.slice al len1 cap1] = [.slice A l.length c] ∧ l.length ≤ c ∧ Kd.C (Kd.int .i64) W A l.length l := by
    obtain ⟨fuel, hf⟩ := h1
    exact open_form (by simpa [Value.cells] using hf)
  cases hs2
  clear hA0 hval0
  refine (law_any hC0 hc0 hC1 hc1 hCf hcf).mono fun e W' ⟨he, bel⟩ => ?_
  subst he
  exact ⟨_, rfl, _, _, _, [], _, [], hW', trodAll_mk1 (shut_bool Try.underlying4 _),
    (trodAll_cons_mk (Below.trod laidOut (by kernel_rfl) (of_decide_eq_true (by kernel_rfl)) k0 bel lt0)
    (trodAll_cons_mk (Below.trod laidOut (by kernel_rfl) (of_decide_eq_true (by kernel_rfl)) k1 bel lt1) trodAll_mk0)), rfl, bel.frame _, fun h => by cases h⟩
theorem over : Rows.topKnotsRow.holds Try.pinned (OpenSpec.ofChange Rows.topKnotsSpec) :=
  OpenClaim.holds_of_wide 3 Try.f3 rfl rfl rfl rfl rfl rfl rfl ⟨rfl, rfl, rfl, rfl, rfl⟩ rfl rfl rfl rfl rfl (by kernel_rfl) Try.func3 (by kernel_rfl)
    (of_decide_eq_true (by kernel_rfl)) (by unfold Func.isWrapper; first | (rw [if_pos (by decide +kernel)]; kernel_rfl) | (rw [if_neg (by decide +kernel)]; exact ⟨rfl, rfl⟩))
    (fun os started H enc _ => lifted os started H enc)
end Go.Proofs.Ytiglkpgoakibaaa.topKnots
namespace Go.Proofs.Ytiglkpgoakibaaa
set_option linter.unusedSimpArgs false
/-- The row, under a short name, for the claim. -/
theorem topKnots_holds : Rows.TopKnotsSaid := topKnots.over
#print axioms topKnots_holds
end Go.Proofs.Ytiglkpgoakibaaa
