/- The law TopRegrouped: the walk: it holds of every input. Conditions: the nodes' and the nudges' slices are as they lie in memory. -/
import Derived.Test.YtiglkpgoakibaabAlike
namespace Go.Proofs.Ytiglkpgoakibaab
open Go.RowKit Go.Shelf PTopRegrouped Go.Proofs.YtiglkpgoakibaabW.PrintWords Go.Proofs.YtiglkpgoakibaabW.PrintLast
attribute [local go_sem] Oper.semAt_some
set_option linter.unusedSimpArgs false

theorem ClAt.C' {w : World} {A : Option Addr} {b off : Nat} {l : List S31} (h : ClAt w A b off l) (hl : l.length ≤ 9223372036854775807) : Kd.C k31 w A l.length l := by
  refine ⟨rfl, hl, fun h0 => ⟨_, h.hA h0, fun j p hj => ⟨scells p, rfl, k31_mk w p, fun i u hu => ?_⟩⟩⟩
  rw [add_off]
  exact (by rw [← Nat.add_assoc]; exact h.hc j p hj i u hu)

/-- The nodes' slice as it lies once a block has been made. -/
def ClW (w : World) (A : Option Addr) (la : List S31) : Prop := ∀ w1, Below w.heap.size w w1 → w.heap.size < w1.heap.size → ∃ b off, ClAt w1 A b off la
theorem clW_of {w : World} {A : Option Addr} {la : List S31} (h : la.length = 0 ∨ ∃ b off, A = some ⟨b, off, none⟩ ∧ ∀ (k : Nat) (x : S31), la[k]? = some x → ∀ i u, (scells x)[i]? = some u → w.cell? ⟨b, off + k * 5 + i, none⟩ = some u) : ClW w A la := fun w1 hB hz => by
  rcases Nat.eq_zero_or_pos la.length with h0 | h0
  · have := List.eq_nil_of_length_eq_zero h0
    subst this
    exact ⟨w.heap.size, 0, fun h => absurd h (Nat.lt_irrefl 0), fun k x hk => by simp at hk, hz⟩
  · rcases h with h | ⟨b, off, hA, hc⟩
    · omega
    · have hb : b < w.heap.size := World.block_lt_of_cell? w ⟨b, off + 0 * 5 + 0, none⟩ (hc 0 _ (List.getElem?_eq_getElem h0) 0 _ rfl)
      exact ⟨b, off, fun _ => hA, fun k x hk i u hu => (below_at hB hb).trans (hc k x hk i u hu), Nat.lt_of_lt_of_le hb hB.size⟩

set_option maxRecDepth 100000 in
set_option maxHeartbeats 2000000 in
/-- What the guard turns away: the example is looked at. -/
theorem law_out (G H : Int) {A : Option Addr} {c : Nat} {la : List S31} (hlc : la.length ≤ c) (hbig : la.length ≤ 9223372036854775807) (w : World) (ha : ClW w A la) (Al : Option Addr) (lc nl : Nat) (T need : Int) (nd gp : Nat)
    (hout : ¬ (clB G H la = true ∧ la.length ≤ 6 ∧ nl ≤ 60 ∧ T ≤ 60)) :
    Calls Try.prog 3 #[.agg #[.int .i64 G, .int .i64 H, .slice A la.length c], .slice Al nl lc, .int .i64 T, .int .u8 nd, .int .u8 gp, .int .i64 need] w fun e w' => e = .returned (.bool true) ∧ Below w.heap.size w w' := by
  have hu24 := Try.underlying24
  have hct := ref_check G H la
  obtain ⟨w1, hw1⟩ : ∃ w1, w.alloc (.cells #[.int .i64 G, .int .i64 H, .slice A la.length c] 24) = w1 := ⟨_, rfl⟩
  have hB1 : Below w.heap.size w w1 := by rw [← hw1]; exact (Below.refl _ w).alloc (Nat.le_refl _) _
  have k0 : w1.heap[w.heap.size]? = some (.cells #[.int .i64 G, .int .i64 H, .slice A la.length c] 24 (0, 0)) := by rw [← hw1]; exact allocNew _ _ _ rfl
  have p2 : w1.cell? ⟨w.heap.size, 2, none⟩ = some (.slice A la.length c) := (blk_cell' k0 2).trans rfl
  have p0 : w1.cell? ⟨w.heap.size, 0, none⟩ = some (.int .i64 G) := (blk_cell' k0 0).trans rfl
  have p1 : w1.cell? ⟨w.heap.size, 1, none⟩ = some (.int .i64 H) := (blk_cell' k0 1).trans rfl
  obtain ⟨b, off, ha⟩ := ha w1 hB1 (by rw [← hw1]; simp)
  have HA := Lib.hid ha
  clear ha k0
  by_cases hk : clB G H la = true
  · rw [if_pos hk] at hct
    have HT := Lib.hid hct
    clear hct
    have hout : ¬ (la.length ≤ 6 ∧ nl ≤ 60 ∧ T ≤ 60) := fun h => hout ⟨hk, h⟩
    clear hk
    by_cases h6 : (6 : Int) < la.length
    · have h6n : 6 < la.length := by omega
      clear hout
      go_enter Try.func3, Try.ntmps3
      go_wp2_with fail
      refine (ignitionref09_Check.calls _ G H A c la 0 _ (HA.out.C' hbig) hlc HT.out).mono ?_
      rintro e w2 ⟨rfl, hB2⟩
      have p2 := pw_cell_below hB2 p2
      go_wp2_with fail
      refine (example_any _).mono ?_
      rintro e w3 ⟨rfl, hB3⟩
      go_wp2_with fail
      go_ret
      exact ⟨rfl, hB1.trans ((hB2.trans (hB3.mono hB2.size)).mono hB1.size)⟩
    · have h6' : decide ((6 : Int) < la.length) = false := decide_eq_false h6
      have h6n : ¬ 6 < la.length := by omega
      by_cases h60 : (60 : Int) < nl
      · have h60n : 60 < nl := by omega
        clear hout
        go_enter Try.func3, Try.ntmps3
        go_wp2_with fail
        refine (ignitionref09_Check.calls _ G H A c la 0 _ (HA.out.C' hbig) hlc HT.out).mono ?_
        rintro e w2 ⟨rfl, hB2⟩
        have p2 := pw_cell_below hB2 p2
        go_wp2_with fail
        refine (example_any _).mono ?_
        rintro e w3 ⟨rfl, hB3⟩
        go_wp2_with fail
        go_ret
        exact ⟨rfl, hB1.trans ((hB2.trans (hB3.mono hB2.size)).mono hB1.size)⟩
      · have h60' : decide ((60 : Int) < nl) = false := decide_eq_false h60
        have h60n : ¬ 60 < nl := by omega
        have hTT : 60 < T := by
          refine Int.not_le.1 (fun h => hout ⟨by omega, by omega, h⟩)
        clear hout
        go_enter Try.func3, Try.ntmps3
        go_wp2_with fail
        refine (ignitionref09_Check.calls _ G H A c la 0 _ (HA.out.C' hbig) hlc HT.out).mono ?_
        rintro e w2 ⟨rfl, hB2⟩
        have p2 := pw_cell_below hB2 p2
        go_wp2_with fail
        refine (example_any _).mono ?_
        rintro e w3 ⟨rfl, hB3⟩
        go_wp2_with fail
        go_ret
        exact ⟨rfl, hB1.trans ((hB2.trans (hB3.mono hB2.size)).mono hB1.size)⟩
  · rw [if_neg hk] at hct
    have HT := Lib.hid hct
    clear hct hk hout
    go_enter Try.func3, Try.ntmps3
    go_wp2_with fail
    refine (ignitionref09_Check.calls _ G H A c la 90 _ (HA.out.C' hbig) hlc HT.out).mono ?_
    rintro e w2 ⟨rfl, hB2⟩
    have p2 := pw_cell_below hB2 p2
    go_wp2_with fail
    refine (example_any _).mono ?_
    rintro e w3 ⟨rfl, hB3⟩
    go_wp2_with fail
    go_ret
    exact ⟨rfl, hB1.trans ((hB2.trans (hB3.mono hB2.size)).mono hB1.size)⟩
end Go.Proofs.Ytiglkpgoakibaab
