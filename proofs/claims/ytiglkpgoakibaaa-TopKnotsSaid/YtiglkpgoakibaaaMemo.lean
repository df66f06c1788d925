/- A map that is sound and is known to hold some keys. No condition beyond those named. -/
import Derived.Test.YtiglkpgoakibaaaCount
namespace Go.Proofs.Ytiglkpgoakibaaa
open Go.RowKit Go.Maps PTopKnots Go.Proofs.YtiglkpgoakibaaaW.PrintWords
set_option linter.unusedVariables false
set_option linter.unusedSimpArgs false

/-- Sound, and it holds the keys that H says. -/
def SoundH (w : World) (T : TypeId) (mb c : Nat) (S : Lit → Int → Prop) (H : Lit → Prop) : Prop :=
  ∃ (n : Nat) (D : DataW Unit), w.ownsMap Try.prog T (plainElem Try.prog 3) mb n D ∧ size D ≤ c ∧ (∀ k, has D k = true → ∃ x : Int, D.atKey k (.lit (.int .i64 0)) = .lit (.int .i64 x) ∧ S k x) ∧ ∀ k, H k → has D k = true
section
variable {w w' : World} {T : TypeId} {mb c : Nat} {S : Lit → Int → Prop} {H : Lit → Prop}
theorem SoundH.sound (h : SoundH w T mb c S H) : Sound w T mb c S := by
  obtain ⟨n, D, h1, h2, h3, _⟩ := h
  exact ⟨n, D, h1, h2, h3⟩
theorem Sound.toH (h : Sound w T mb c S) : SoundH w T mb c S (fun _ => False) := by
  obtain ⟨n, D, h1, h2, h3⟩ := h
  exact ⟨n, D, h1, h2, h3, fun _ h => h.elim⟩
theorem SoundH.kept {row : Option Nat} (h : SoundH w T mb c S H) (hg : w.grownBy w' row) (hne : some mb ≠ row) : SoundH w' T mb c S H := by
  obtain ⟨n, D, h1, h2, h3⟩ := h
  exact ⟨n, D, h1.kept hg hne, h2, h3⟩
theorem SoundH.same (h : SoundH w T mb c S H) (he : w'.heap[mb]? = w.heap[mb]?) : SoundH w' T mb c S H := by
  obtain ⟨n, D, ⟨es, clock, hb, F, hs, hD⟩, h2, h3⟩ := h
  exact ⟨n, D, ⟨es, clock, he.trans hb, F, hs, hD⟩, h2, h3⟩
theorem SoundH.imp {S' : Lit → Int → Prop} {H' : Lit → Prop} {c' : Nat} (h : SoundH w T mb c S H) (hc : c ≤ c') (hS : ∀ k x, S k x → S' k x) (hH : ∀ k, H' k → H k) : SoundH w T mb c' S' H' := by
  obtain ⟨n, D, h1, h2, h3, h4⟩ := h
  exact ⟨n, D, h1, by omega, fun k hk => by obtain ⟨x, a, b⟩ := h3 k hk; exact ⟨x, a, hS k x b⟩, fun k hk => h4 k (hH k hk)⟩
theorem SoundH.look (h : SoundH w T mb c S H) {mt : TypeId} (law : Keyed Try.prog T) (hu : Try.prog.underlying mt = some (.map T 3)) (hz : ∀ w, (zeroValue 3).run Try.prog w = .ok (.int .i64 0) w) {kv : Value} {k : Lit} (hk : keyOf Try.prog T kv = some k) :
    ∃ (x : Int) (b : Bool), (∀ w' : World, w'.heap[mb]? = w.heap[mb]? → (Instr.lookup mt (.map (some mb)) kv true).run Try.prog w' = .ok (.tuple #[.int .i64 x, .bool b]) w') ∧ (b = true → S k x) ∧ (H k → b = true) := by
  obtain ⟨n, D, h1, h2, h3, h4⟩ := h
  have hz0 : plainElem (H := Unit) Try.prog 3 (.int .i64 0) = some (.lit (.int .i64 0), []) := plainElem_int Try.underlying3 (by decide)
  obtain ⟨v, ps, hr, hv⟩ := h1.look_ok law hu (hz w) hz0 hk
  obtain ⟨x, rfl, hx⟩ := int_of hv
  refine ⟨x, has D k, fun w' he => ?_, fun hb => ?_, fun hH => h4 k hH⟩
  · obtain ⟨es, clock, hb, Fi, hs, hD⟩ := h1
    have h1' : w'.ownsMap Try.prog T (plainElem Try.prog 3) mb n D := ⟨es, clock, he.trans hb, Fi, hs, hD⟩
    obtain ⟨v', ps', hr', hv'⟩ := h1'.look_ok law hu (hz w') hz0 hk
    obtain ⟨x', rfl, hx'⟩ := int_of hv'
    have := hx.symm.trans hx'
    simp only [DataW.lit.injEq, Lit.int.injEq, true_and] at this
    rw [hr', this]
  · obtain ⟨y, hy, hS⟩ := h3 k hb
    have := hx.symm.trans hy
    simp only [DataW.lit.injEq, Lit.int.injEq, true_and] at this
    rw [this]
    exact hS
theorem SoundH.store (h : SoundH w T mb c S H) (hc : c ≤ 1099511627776) {mt : TypeId} (law : Keyed Try.prog T) (hu : Try.prog.underlying mt = some (.map T 3)) {kv : Value} {k : Lit} (hk : keyOf Try.prog T kv = some k) {x : Int} (hx : (Lit.int .i64 x).wf = true) (hS : S k x) :
    ∃ w', (Instr.mapUpdate mt (.map (some mb)) kv (.int .i64 x)).run Try.prog w = .ok () w' ∧ SoundH w' T mb (c + 1) S (fun k' => H k' ∨ k' = k) ∧ w.grownBy w' (some mb) := by
  obtain ⟨n, D, h1, h2, h3, h4⟩ := h
  have hT := h1.tidy law
  have hM := h1.isMap
  have hkl : WideAt.IsKeyLit k := law.key hk
  obtain ⟨w', hr, hown, hg⟩ := (own_exact h1).update law hu (by unfold maxLen; omega) hk (plainElem_int (H := Unit) Try.underlying3 hx)
  refine ⟨w', hr, ⟨_, _, hown, ?_, fun k' hk' => ?_, fun k' hk' => ?_⟩, hg⟩
  · rw [size_put hT]
    split <;> omega
  · by_cases he : k' = k
    · subst he
      exact ⟨x, atKey_put_same hM hkl _ _, hS⟩
    · rw [has_put_other he] at hk'
      rw [atKey_put_other he]
      exact h3 k' hk'
  · by_cases he : k' = k
    · subst he
      exact has_put_same hM hkl _
    · rw [has_put_other he]
      exact h4 k' (hk'.resolve_right he)
end
end Go.Proofs.Ytiglkpgoakibaaa
