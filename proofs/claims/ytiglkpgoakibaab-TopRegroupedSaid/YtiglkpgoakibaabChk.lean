/- All nudges are checked (slices.ContainsFunc over right): the walks. Conditions: the ticks are 0 to 1000, at most 16 nodes, 8 groups, 1000 nudges. -/
import Derived.Test.YtiglkpgoakibaabRight
namespace Go.Proofs.Ytiglkpgoakibaab
open Go.RowKit Go.Shelf PTopRegrouped Go.Proofs.YtiglkpgoakibaabW.PrintWords Go.Proofs.YtiglkpgoakibaabW.PrintLast
attribute [local go_sem] Oper.semAt_some
set_option linter.unusedSimpArgs false

/-- The boxes that the check reads. -/
structure ChkIn (w : World) (G H T : Int) (A : Option Addr) (b off c : Nat) (l : List S31) (bc bt : Nat) : Prop where
  G0 : 1 ≤ G
  G8 : G ≤ 8
  T0 : 0 ≤ T
  T1 : T ≤ 1000
  l16 : l.length ≤ 16
  cl : ClAt w A b off l
  box : w.heap[bc]? = some (.cells #[.int .i64 G, .int .i64 H, .slice A l.length c] 24 (0, 0))
  tick : w.heap[bt]? = some (.cells #[.int .i64 T] 3 (0, 0))
theorem ChkIn.below {w w' : World} {G H T : Int} {A : Option Addr} {b off c : Nat} {l : List S31} {bc bt : Nat} (h : ChkIn w G H T A b off c l bc bt) (hb : Below w.heap.size w w') : ChkIn w' G H T A b off c l bc bt :=
  ⟨h.G0, h.G8, h.T0, h.T1, h.l16, h.cl.below hb h.cl.bb, (hb.block _ (blk_lt' h.box)).trans h.box, (hb.block _ (blk_lt' h.tick)).trans h.tick⟩

set_option maxRecDepth 100000 in
set_option maxHeartbeats 1000000 in
theorem wrong_any {G H T : Int} {A : Option Addr} {b off c : Nat} {l : List S31} {bc bt : Nat} (x : Ng) (w : World) (h : ChkIn w G H T A b off c l bc bt) :
    Calls Try.prog 28 #[x.enc, .pointer (some ⟨bc, 0, none⟩), .pointer (some ⟨bt, 0, none⟩)] w fun e w' => e = .returned (.bool (!rightF G T l x)) ∧ Below w.heap.size w w' := by
  have h1 := h.G0
  have h2 := h.G8
  have h3 := h.T0
  have h4 := h.T1
  have h5 := h.l16
  have b1 := blk_lt' h.box
  have b2 := blk_lt' h.tick
  have q0 : w.cell? ⟨bc, 0, none⟩ = some (.int .i64 G) := (blk_cell' h.box 0).trans rfl
  have q1 : w.cell? ⟨bc, 1, none⟩ = some (.int .i64 H) := (blk_cell' h.box 1).trans rfl
  have q2 : w.cell? ⟨bc, 2, none⟩ = some (.slice A l.length c) := (blk_cell' h.box 2).trans rfl
  have q3 : w.cell? ⟨bt, 0, none⟩ = some (.int .i64 T) := (blk_cell' h.tick 0).trans rfl
  have HC := Lib.hid h.cl
  clear h
  go_enter Try.func28, Try.ntmps28
  dsimp only [Ng.enc]
  go_wp2_with (go_at_call 29; refine (right_any G H h1 h2 T h3 h4 A b off c l h5 x _ (HC.out.alloc _)).mono ?_; rintro e w' ⟨rfl, hB⟩)
  go_ret
  exact ⟨rfl, ((Below.refl _ w).alloc (Nat.le_refl _) _).trans (hB.mono (by simp))⟩

set_option maxRecDepth 100000 in
set_option maxHeartbeats 1000000 in
theorem idx_any {G H T : Int} {A : Option Addr} {b off c : Nat} {l : List S31} {bc bt : Nat} (w : World) (h : ChkIn w G H T A b off c l bc bt)
    (Al : Option Addr) (nb noff lc : Nat) (ls : List Ng) (hls : ls.length ≤ 1000) (hA : 0 < ls.length → Al = some ⟨nb, noff, none⟩) (hn : NgAt w nb noff ls) (hnb : nb < w.heap.size) :
    Calls Try.prog 38 #[.slice Al ls.length lc, .func (.func 28) #[] #[.pointer (some ⟨bc, 0, none⟩), .pointer (some ⟨bt, 0, none⟩)]] w fun e w' =>
      (∃ r : Int, e = .returned (.int .i64 r) ∧ decide (r ≥ 0) = ls.any (fun x => !rightF G T l x)) ∧ Below w.heap.size w w' := by
  go_enter Try.func38, Try.ntmps38
  go_wp2
  go_loopw [8] (fun i wr => ∃ k : Nat, k ≤ ls.length ∧ i = .int .i64 k ∧ (∀ j x, j < k → ls[j]? = some x → rightF G T l x = true) ∧ Below w.heap.size w wr) (fun i _ => ls.length - (intOf i).toNat)
  case atStart => exact ⟨0, Nat.zero_le _, rfl, fun j x hj => by omega, Below.refl _ _⟩
  case round =>
    obtain ⟨k, hk, rfl, hall, hB⟩ := hrel
    by_cases hlt : k < ls.length
    · obtain rfl := hA (by omega)
      obtain ⟨x, hx⟩ : ∃ x, ls[k]? = some x := ⟨_, List.getElem?_eq_getElem hlt⟩
      have f0 : wr.cell? ⟨nb, noff + k * 4, none⟩ = some (.int .i64 x.at_) := (below_at hB hnb).trans (hn k x hx 0 _ rfl)
      have f1 : wr.cell? ⟨nb, noff + k * 4 + 1, none⟩ = some (.int .i64 x.kind) := (below_at hB hnb).trans (hn k x hx 1 _ rfl)
      have f2 : wr.cell? ⟨nb, noff + k * 4 + 2, none⟩ = some (.int .i64 x.node) := (below_at hB hnb).trans (hn k x hx 2 _ rfl)
      have f3 : wr.cell? ⟨nb, noff + k * 4 + 3, none⟩ = some (.int .i64 x.arg) := (below_at hB hnb).trans (hn k x hx 3 _ rfl)
      have HI := Lib.hid (h.below hB)
      have HX := Lib.hid hx
      have HAL := Lib.hid hall
      clear hx hall hn h
      cases hr : rightF G T l x
      · have hfin : decide ((k : Int) ≥ 0) = ls.any (fun x => !rightF G T l x) := by
          rw [decide_eq_true (by omega)]
          refine (List.any_eq_true.2 ⟨x, List.mem_of_getElem? HX.out, by simp [hr]⟩).symm
        have HF := Lib.hid hfin
        have HR := Lib.hid hr
        clear hfin hr
        go_wp2_with (go_at_call 28; refine (wrong_any x _ HI.out).mono ?_; rintro e w' ⟨rfl, hB2⟩; rw [HR.out])
        go_ret
        exact ⟨⟨_, rfl, HF.out⟩, hB.trans (hB2.mono hB.size)⟩
      · have HR := Lib.hid hr
        clear hr
        go_wp2_with (go_at_call 28; refine (wrong_any x _ HI.out).mono ?_; rintro e w' ⟨rfl, hB2⟩; rw [HR.out])
        refine ⟨⟨k + 1, by omega, by simp, fun j y hj hy => ?_, hB.trans (hB2.mono hB.size)⟩, by simp [intOf]; omega⟩
        rcases Nat.lt_or_ge j k with h' | h'
        · exact HAL.out j y h' hy
        · obtain rfl : j = k := by omega
          rw [HX.out] at hy
          cases hy
          exact HR.out
    · obtain rfl : k = ls.length := by omega
      have hfin : decide ((-1 : Int) ≥ 0) = ls.any (fun x => !rightF G T l x) := by
        rw [decide_eq_false (by omega)]
        symm
        rw [List.any_eq_false]
        intro x hx
        obtain ⟨j, hj, rfl⟩ := List.getElem_of_mem hx
        simp [hall j _ hj (List.getElem?_eq_getElem hj)]
      have HF := Lib.hid hfin
      clear hfin hall
      go_wp2
      go_ret
      exact ⟨⟨_, rfl, HF.out⟩, hB⟩

set_option maxRecDepth 100000 in
set_option maxHeartbeats 1000000 in
theorem chk_any {G H T : Int} {A : Option Addr} {b off c : Nat} {l : List S31} {bc bt : Nat} (w : World) (h : ChkIn w G H T A b off c l bc bt)
    (Al : Option Addr) (nb noff lc : Nat) (ls : List Ng) (hls : ls.length ≤ 1000) (hA : 0 < ls.length → Al = some ⟨nb, noff, none⟩) (hn : NgAt w nb noff ls) (hnb : nb < w.heap.size) :
    Calls Try.prog 27 #[.slice Al ls.length lc, .func (.func 28) #[] #[.pointer (some ⟨bc, 0, none⟩), .pointer (some ⟨bt, 0, none⟩)]] w fun e w' =>
      e = .returned (.bool (ls.any (fun x => !rightF G T l x))) ∧ Below w.heap.size w w' := by
  have HI := Lib.hid h
  have HN := Lib.hid hn
  clear h hn
  go_enter Try.func27, Try.ntmps27
  go_wp2_with (go_at_call 38; refine (idx_any w HI.out Al nb noff lc ls hls hA HN.out hnb).mono ?_; rintro e w' ⟨⟨r, rfl, hr⟩, hB⟩)
  go_ret
  exact ⟨rfl, hB⟩
end Go.Proofs.Ytiglkpgoakibaab
