/- A copy of a row of bools (slices.Clone): the walk; rows of variants. Conditions: those named. -/
import Derived.Test.YtiglkpgoakibaaaFirst
import Derived.Lib.SliceRun
namespace Go.Proofs.Ytiglkpgoakibaaa
open Go.RowKit Go.Maps PTopKnots Go.Proofs.YtiglkpgoakibaaaW.PrintWords
set_option linter.unusedVariables false
set_option linter.unusedSimpArgs false

/-- A variant in memory: nil, or a block of bools. -/
def BV (w : World) (B : Nat) (v : Value) (x : List Bool) : Prop :=
  (v = .slice none 0 0 ∧ x = []) ∨ ∃ (g c : Nat) (cs : Array Value), v = .slice (some ⟨g, 0, none⟩) x.length c ∧ (B ≤ g ∧ x.length ≤ c) ∧ w.heap[g]? = some (.cells cs 4 (0, 0)) ∧ ∀ (j : Nat) (b : Bool), x[j]? = some b → cs[j]? = some (Value.bool b)
theorem BV.kept {w w' : World} {B : Nat} {v : Value} {x : List Bool} (h : BV w B v x) (hk : ∀ (g : Nat) (cs : Array Value), w.heap[g]? = some (.cells cs 4 (0, 0)) → w'.heap[g]? = w.heap[g]?) : BV w' B v x := by
  rcases h with h | ⟨g, c, cs, h1, h3, h4, h5⟩
  · exact .inl h
  · exact .inr ⟨g, c, cs, h1, h3, (hk g cs h4).trans h4, h5⟩
theorem BV.below {w w' : World} {B : Nat} {v : Value} {x : List Bool} (h : BV w B v x) (hb : Below w.heap.size w w') : BV w' B v x := h.kept fun g _ hg => hb.block g (blk_lt' hg)
theorem BV.low {w : World} {B B' : Nat} {v : Value} {x : List Bool} (h : BV w B v x) (hb : B' ≤ B) : BV w B' v x := by
  rcases h with h | ⟨g, c, cs, h1, h3, h4⟩
  · exact .inl h
  · exact .inr ⟨g, c, cs, h1, ⟨by omega, h3.2⟩, h4⟩
theorem bv_own {w : World} {B n : Nat} {v : Value} {x : List Bool} (h : w.ownsRow B 4 1 v n (x.map Value.bool)) : BV w B v x := by
  have hn : x.length = n := by have := h.1; rw [List.length_map] at this; omega
  subst hn
  rcases h.2 with ⟨h1, h2⟩ | ⟨g, cap, cur, h1, h2, h3, h4, h5, h6, h7⟩
  · exact .inl ⟨by rw [h1], List.eq_nil_of_length_eq_zero h2⟩
  · refine .inr ⟨g, cap, cur, h1, ⟨h2, h4⟩, h3, fun j b hj => ?_⟩
    have hjl := (List.getElem?_eq_some_iff.1 hj).1
    have h8 : (x.map Value.bool)[j]? = some (.bool b) := by rw [List.getElem?_map, hj]; rfl
    rw [← h7, List.getElem?_take, if_pos (by omega)] at h8
    simpa using h8
theorem info4 : (Try.prog.info? 4).map (fun i => (i.zero, i.size, i.bytes)) = some (some (.bool false), 1, 1) := by kernel_rfl
theorem eq40 (w : World) (A : Option Addr) (l c : Nat) : (binOp .eql 40 (.slice A l c) (.slice none 0 0)).run Try.prog w = .ok (.bool A.isNone) w := by
  simpa using Go.Lib.run_eql_slice_nil (P := Try.prog) w 40 4 A l c 0 0 Try.underlying40
attribute [local go_sem] eq40
theorem bools_one (x : List Bool) : ∀ u ∈ x.map Value.bool, u.oneCell' = true := fun u hu => by
  obtain ⟨b, _, rfl⟩ := List.mem_map.1 hu
  rfl
set_option maxRecDepth 100000 in
theorem clone_any {w : World} {B : Nat} {v : Value} {x : List Bool} (h : BV w B v x) (hl : x.length ≤ 1000) :
    Calls Try.prog 34 #[v] w fun e w' => ∃ v', e = .returned v' ∧ Below w.heap.size w w' ∧ w'.ownsRow w.heap.size 4 1 v' x.length (x.map Value.bool) := by
  obtain ⟨i0, hi, hzz⟩ := Option.map_eq_some_iff.1 info4
  simp only [Prod.mk.injEq] at hzz
  obtain ⟨hz0, hz1, hz2⟩ := hzz
  rcases h with ⟨rfl, rfl⟩ | ⟨g, c, cs, rfl, hB, hg, hc⟩
  · go_enter Try.func34, Try.ntmps34
    go_wp2_with fail
    go_ret
    exact ⟨_, rfl, Below.refl _ _, World.ownsRow_nil _ _ _ _⟩
  · have hgl := blk_lt' hg
    obtain ⟨L, hL⟩ : ∃ L, x.length = L := ⟨_, rfl⟩
    have hb1 : Below w.heap.size w (w.alloc (.cells #[] 4)) := (Below.refl _ w).alloc (Nat.le_refl _) _
    have hn : ∀ j u, (x.map Value.bool)[j]? = some u → (w.alloc (.cells #[] 4)).cell? ((⟨g, 0, none⟩ : Addr).add j) = some u := fun j u hu => by
      rw [add_off, Nat.zero_add, blk_cell' ((hb1.block _ hgl).trans hg)]
      rw [List.getElem?_map] at hu
      obtain ⟨b, h1, rfl⟩ := Option.map_eq_some_iff.1 hu
      exact hc j b h1
    have hmade : (w.alloc (.cells #[] 4)).ownsRow w.heap.size 4 1 (.slice (some ⟨w.heap.size, 0, none⟩) 0 0) 0 [] := World.ownsRow_made w #[] 0 (Nat.le_refl _) (by decide) rfl
    rw [hL] at hl ⊢
    have HL := Lib.hid hL
    have HN := Lib.hid hn
    have H0 := Lib.hid (And.intro hi (And.intro hz0 (And.intro hz1 hz2)))
    have HB1 := Lib.hid hb1
    have HM := Lib.hid hmade
    clear hL hn hi hz0 hz1 hz2 hb1 hmade hg hc
    go_enter Try.func34, Try.ntmps34
    go_wp2_with (at_builtin; refine wpList_append_own_at (w.alloc (.cells #[] 4)) rfl _ _ 40 rfl w.heap.size 4 i0 (.bool false) 1 1 Try.underlying40 H0.out.1 H0.out.2.1 H0.out.2.2.1 H0.out.2.2.2 rfl (by decide) (.slice (some ⟨w.heap.size, 0, none⟩) 0 0) 0 [] rfl HM.out ⟨g, 0, none⟩ L c (x.map Value.bool) rfl (by rw [List.length_map, HL.out, Nat.mul_one]) HN.out (bools_one x) (by simp only [maxLen]; omega) (by omega) (by simp) ?_; intro v' w' hown hgr _ hat)
    go_ret
    refine ⟨_, rfl, HB1.out.grown hgr (by simp) (fun k hk => ?_), by rw [Nat.zero_add, List.nil_append] at hown; exact hown⟩
    cases hk
    exact Nat.le_refl _
end Go.Proofs.Ytiglkpgoakibaaa
