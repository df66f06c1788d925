/- What a parked node's map knows: whatever it holds is the best outcome. Conditions: ticks up to 1000, tokens 0 to 20. -/
import Derived.Test.YtiglkpgoakibaabParkP
namespace Go.Proofs.Ytiglkpgoakibaab
open Go.RowKit Go.Maps PTopRegrouped Go.Proofs.YtiglkpgoakibaabW.PrintWords

@[reducible] def outV (x : Int × Int) : Value := .agg #[.int .i64 x.1, .int .i64 x.2]
def outD (x : Int × Int) : DataW Unit := .agg [.lit (.int .i64 x.1), .lit (.int .i64 x.2)]
/-- How an outcome reads. -/
def outL : List Value → Option (Int × Int)
  | [.int .i64 a, .int .i64 b] => some (a, b)
  | _ => none
def outR (v : Value) : Option (DataW Unit × List MemPlace) :=
  match v with
  | .agg cs => (outL cs.toList).map fun x => (outD x, [])
  | _ => none
theorem outR_mk (x : Int × Int) : outR (outV x) = some (outD x, []) := rfl
theorem outL_inv {l : List Value} {x : Int × Int} (h : outL l = some x) : l = [.int .i64 x.1, .int .i64 x.2] := by
  unfold outL at h
  split at h
  · simp only [Option.some.injEq] at h
    subst h
    rfl
  · cases h
theorem outR_inv {v : Value} {d : DataW Unit} {ps : List MemPlace} (h : outR v = some (d, ps)) : ∃ x, v = outV x ∧ d = outD x := by
  unfold outR at h
  split at h
  · rename_i cs
    obtain ⟨x, hx, he⟩ := Option.map_eq_some_iff.1 h
    simp only [Prod.mk.injEq] at he
    refine ⟨x, ?_, he.1.symm⟩
    have := outL_inv hx
    unfold outV
    rw [← Array.toArray_toList (xs := cs), this]
  · cases h
theorem outD_inj {x y : Int × Int} (h : outD x = outD y) : x = y := by
  unfold outD at h
  simp only [DataW.agg.injEq, List.cons.injEq, DataW.lit.injEq, Lit.int.injEq, and_true, true_and] at h
  exact Prod.ext h.1 h.2
theorem zero76 (w : World) : (zeroValue 76).run Try.prog w = .ok (outV (0, 0)) w := by
  kernel_rfl

/-- All states that there may be. -/
def grid : List (Nat × Nat) := (List.range 1001).flatMap fun t => (List.range 21).map fun k => (t, k)
theorem grid_mem {t k : Nat} (ht : t ≤ 1000) (hk : k ≤ 20) : (t, k) ∈ grid := by
  unfold grid
  simp only [List.mem_flatMap, List.mem_map, List.mem_range]
  exact ⟨t, by omega, k, by omega, rfl⟩
theorem grid_length : grid.length = 21021 := by
  unfold grid
  rw [List.length_flatMap]
  simp only [List.length_map, List.length_range, List.map_const', List.sum_replicate_nat]
theorem countP_step {α : Type} {p q : α → Bool} (hpq : ∀ x, p x = true → q x = true) {a : α} (ha : p a = false) (hq : q a = true) : ∀ {l : List α}, a ∈ l → l.countP p + 1 ≤ l.countP q
  | [], h => by simp at h
  | b :: l, h => by
    have hle : l.countP p ≤ l.countP q := List.countP_mono_left (fun x _ hx => hpq x hx)
    rw [List.countP_cons, List.countP_cons]
    rcases List.mem_cons.1 h with rfl | h
    · rw [ha, hq]
      simp
      omega
    · have := countP_step hpq ha hq h
      cases hb : p b
      · simp only [Bool.false_eq_true, if_false]
        omega
      · rw [hpq b hb]
        simp
        omega
def inG (D : DataW Unit) (s : Nat × Nat) : Bool := has D (stL s.1 s.2)

/-- Block mb is a map that knows of best outcomes alone. -/
def Known (w : World) (mb : Nat) (F : Nat → Int → Int × Int) : Prop :=
  ∃ n D, w.ownsMap Try.prog 79 outR mb n D ∧ size D ≤ grid.countP (inG D) ∧ ∀ t k : Nat, t ≤ 1000 → k ≤ 20 → has D (stL t k) = true → D.atKey (stL t k) (outD (0, 0)) = outD (F t k)
theorem own_exact {w : World} {mb n : Nat} {D : DataW Unit} (h : w.ownsMap Try.prog 79 outR mb n D) : w.ownsMap Try.prog 79 outR mb (size D) D := by
  obtain ⟨es, clock, hb, F, hs, rfl⟩ := h
  refine ⟨es, clock, hb, F, ?_, rfl⟩
  simp [size, length_sorted]
theorem Known.made (w : World) (F : Nat → Int → Int × Int) : Known (w.alloc (.map #[] 0)) w.heap.size F :=
  ⟨0, .map [], World.ownsMap_made _ _ _ _, by simp [size], fun t k _ _ h => by simp [has] at h⟩
theorem Known.kept {w w' : World} {mb : Nat} {F : Nat → Int → Int × Int} {row : Option Nat} (h : Known w mb F) (hg : w.grownBy w' row) (hne : some mb ≠ row) : Known w' mb F := by
  obtain ⟨n, D, h1, h2, h3⟩ := h
  exact ⟨n, D, h1.kept hg hne, h2, h3⟩
theorem Known.below {w w' : World} {mb : Nat} {F : Nat → Int → Int × Int} (h : Known w mb F) (hb : Below w.heap.size w w') : Known w' mb F :=
  h.kept (row := none) ⟨hb.os, hb.tape, hb.output, hb.size, fun k hk _ => hb.block k hk⟩ (by simp)
theorem Known.lt {w : World} {mb : Nat} {F : Nat → Int → Int × Int} (h : Known w mb F) : mb < w.heap.size := by
  obtain ⟨n, D, h1, _⟩ := h
  exact h1.lt
theorem stL_nat (t k : Nat) (ht : t ≤ 1000) (hk : k ≤ 20) : keyOf Try.prog 79 (stV t k) = some (stL t k) := stL_of ⟨by omega, by omega⟩ ⟨by omega, by omega⟩
theorem stL_ne {t k t' k' : Nat} (ht : t ≤ 1000) (hk : k ≤ 20) (ht' : t' ≤ 1000) (hk' : k' ≤ 20) (hne : ¬ (t = t' ∧ k = k')) : stL t k ≠ stL t' k' := fun e => by
  have h1 := stL_nat t k ht hk
  have h2 := stL_nat t' k' ht' hk'
  rw [e] at h1
  have := law79.inj h1 h2
  simp only [stV, Value.agg.injEq, Array.mk.injEq, List.cons.injEq, Value.int.injEq, true_and, and_true] at this
  omega
theorem Known.look {w : World} {mb : Nat} {F : Nat → Int → Int × Int} (h : Known w mb F) {t k : Nat} (ht : t ≤ 1000) (hk : k ≤ 20) :
    ∃ (x : Int × Int) (b : Bool), (∀ w' : World, w'.heap[mb]? = w.heap[mb]? → (Instr.lookup 88 (.map (some mb)) (stV t k) true).run Try.prog w' = .ok (.tuple #[outV x, .bool b]) w') ∧ (b = true → x = F t k) := by
  obtain ⟨n, D, h1, h2, h3⟩ := h
  obtain ⟨v, ps, hr, hv⟩ := h1.look_ok law79 Try.underlying88 (zero76 w) (outR_mk (0, 0)) (stL_nat t k ht hk)
  obtain ⟨x, rfl, hx⟩ := outR_inv hv
  refine ⟨x, has D (stL t k), fun w' he => ?_, fun hb => ?_⟩
  · obtain ⟨es, clock, hb, Fi, hs, hD⟩ := h1
    have h1' : w'.ownsMap Try.prog 79 outR mb n D := ⟨es, clock, he.trans hb, Fi, hs, hD⟩
    obtain ⟨v', ps', hr', hv'⟩ := h1'.look_ok law79 Try.underlying88 (zero76 w') (outR_mk (0, 0)) (stL_nat t k ht hk)
    obtain ⟨x', rfl, hx'⟩ := outR_inv hv'
    rw [hr', outD_inj (hx.symm.trans hx')]
  · exact outD_inj (hx.symm.trans (h3 t k ht hk hb))
theorem Known.store {w : World} {mb : Nat} {F : Nat → Int → Int × Int} (h : Known w mb F) {t k : Nat} (ht : t ≤ 1000) (hk : k ≤ 20) :
    ∃ w', (Instr.mapUpdate 88 (.map (some mb)) (stV t k) (outV (F t k))).run Try.prog w = .ok () w' ∧ Known w' mb F ∧ w.grownBy w' (some mb) := by
  obtain ⟨n, D, h1, h2, h3⟩ := h
  have hle : size D ≤ 21021 := by
    have := List.countP_le_length (p := inG D) (l := grid)
    rw [grid_length] at this
    omega
  have hT := h1.tidy law79
  have hM := h1.isMap
  have hkey := stL_nat t k ht hk
  have hkl : WideAt.IsKeyLit (stL t k) := law79.key hkey
  obtain ⟨w', hr, hown, hg⟩ := (own_exact h1).update law79 Try.underlying88 (by unfold maxLen; omega) hkey (outR_mk (F t k))
  refine ⟨w', hr, ⟨_, _, hown, ?_, ?_⟩, hg⟩
  · rw [size_put hT]
    have hmono : ∀ s, inG D s = true → inG (D.put (stL t k) (outD (F t k))) s = true := fun s hs => by
      unfold inG at hs ⊢
      by_cases he : stL s.1 s.2 = stL t k
      · rw [he]; exact has_put_same hM hkl _
      · rw [has_put_other he]; exact hs
    split
    · exact Nat.le_trans h2 (List.countP_mono_left (fun s _ hs => hmono s hs))
    · rename_i hn
      have hf : inG D (t, k) = false := by unfold inG; simpa using hn
      have hq : inG (D.put (stL t k) (outD (F t k))) (t, k) = true := has_put_same hM hkl _
      have := countP_step hmono hf hq (grid_mem ht hk)
      omega
  · intro t' k' ht' hk' hh
    by_cases he : t' = t ∧ k' = k
    · obtain ⟨rfl, rfl⟩ := he
      exact atKey_put_same hM hkl _ _
    · have hne := stL_ne ht' hk' ht hk he
      rw [has_put_other hne] at hh
      rw [atKey_put_other hne]
      exact h3 t' k' ht' hk' hh
end Go.Proofs.Ytiglkpgoakibaab
