/- slices.Index and slices.Contains over whole numbers; the walks. Conditions: the slice has at most 1000 elements. -/
import Derived.Test.YtiglkpgoakibaabBase
import Derived.WalkSpells
import Derived.WalkLawsBesides
import Derived.Deep.QuietTactic
import Derived.BigQuiet
namespace Go.Proofs.Ytiglkpgoakibaab
open Go.RowKit PTopRegrouped Go.Proofs.YtiglkpgoakibaabW.PrintWords

/-- Where a number stands first; the list's length if nowhere. -/
def posOf (ks : List Int) (x : Int) : Nat := ks.findIdx (· == x)
theorem posOf_lt {ks : List Int} {x : Int} : posOf ks x < ks.length ↔ x ∈ ks := by
  unfold posOf
  rw [List.findIdx_lt_length]
  constructor
  · rintro ⟨y, hy, he⟩
    rw [beq_iff_eq] at he
    exact he ▸ hy
  · intro h
    exact ⟨x, h, by simp⟩
theorem posOf_at {ks : List Int} {x : Int} (k : Nat) (hk : k < ks.length) (h : ks[k]?.getD 0 = x) (hn : ∀ j, j < k → ks[j]?.getD 0 ≠ x) : posOf ks x = k := by
  unfold posOf
  rw [List.findIdx_eq hk]
  refine ⟨?_, fun j hj => ?_⟩
  · rw [List.getElem?_eq_getElem hk] at h
    simpa using h
  · have := hn j hj
    rw [List.getElem?_eq_getElem (by omega)] at this
    simpa using this
def idxOf (ks : List Int) (x : Int) : Int := if posOf ks x < ks.length then (posOf ks x : Int) else -1

set_option maxHeartbeats 400000 in
theorem index_any (b cap : Nat) (ks : List Int) (hl : ks.length ≤ 1000) (x : Int) (w : World) (hc : ∀ j, j < ks.length → w.cell? ⟨b, j, none⟩ = some (.int .i64 (ks[j]?.getD 0))) :
    Calls Try.prog 49 #[.slice (some ⟨b, 0, none⟩) ks.length cap, .int .i64 x] w fun e w' => e = .returned (.int .i64 (idxOf ks x)) ∧ w = w' := by
  go_enter Try.func49, Try.ntmps49
  go_wp2
  go_loop [8] (fun i => ∃ k : Nat, k ≤ ks.length ∧ i = .int .i64 k ∧ Hid (∀ j, j < k → ks[j]?.getD 0 ≠ x)) (fun i => ks.length - (intOf i).toNat)
  case atStart => exact ⟨0, Nat.zero_le _, rfl, fun j hj => by omega⟩
  case round =>
    obtain ⟨k, hk, rfl, hn⟩ := hrel
    by_cases hlt : k < ks.length
    · obtain ⟨y, hy⟩ : ∃ y, ks[k]?.getD 0 = y := ⟨_, rfl⟩
      have hck : w.cell? ⟨b, k, none⟩ = some (.int .i64 y) := by rw [← hy]; exact hc k hlt
      have Hc := Lib.hid hc
      have Hy := Lib.hid hy
      clear hc
      by_cases he : y = x
      · subst he
        have hp := posOf_at k hlt hy hn
        have hfin : (k : Int) = idxOf ks y := by unfold idxOf; rw [hp, if_pos hlt]
        have Hfin := Lib.hid hfin
        clear hfin hp hy
        have he' : (y == y) = true := by simp
        go_wp2
        go_ret
        exact ⟨by rw [← Hfin.out]; rfl, rfl⟩
      · have he' : (x == y) = false := by simpa using fun h => he h.symm
        have He := Lib.hid he
        clear he hy
        go_wp2
        go_round
        case rel =>
          refine ⟨k + 1, by omega, by simp, fun j hj => ?_⟩
          rcases Nat.lt_or_ge j k with h | h
          · exact hn.out j h
          · obtain rfl : j = k := by omega
            rw [Hy.out]
            exact He.out
        case measure => simp [intOf]; omega
    · obtain rfl : k = ks.length := by omega
      have hfin : (-1 : Int) = idxOf ks x := by
        unfold idxOf
        rw [if_neg]
        rw [posOf_lt]
        intro hm
        obtain ⟨j, hj, rfl⟩ := List.getElem_of_mem hm
        exact hn.out j hj (by rw [List.getElem?_eq_getElem hj]; rfl)
      have Hfin := Lib.hid hfin
      clear hfin hc
      go_wp2
      go_ret
      exact ⟨by rw [← Hfin.out]; rfl, rfl⟩

set_option maxHeartbeats 400000 in
theorem contains_any (b cap : Nat) (ks : List Int) (hl : ks.length ≤ 1000) (x : Int) (w : World) (hc : ∀ j, j < ks.length → w.cell? ⟨b, j, none⟩ = some (.int .i64 (ks[j]?.getD 0))) :
    Calls Try.prog 45 #[.slice (some ⟨b, 0, none⟩) ks.length cap, .int .i64 x] w fun e w' => e = .returned (.bool (ks.contains x)) ∧ w = w' := by
  have hfin : decide (0 ≤ idxOf ks x) = ks.contains x := by
    unfold idxOf
    by_cases h : x ∈ ks
    · rw [if_pos (posOf_lt.2 h)]; simp [h]
    · rw [if_neg (fun h' => h (posOf_lt.1 h'))]; simp [h]
  have Hfin := Lib.hid hfin
  clear hfin
  have Hc := Lib.hid hc
  clear hc
  go_enter Try.func45, Try.ntmps45
  go_wp2_with (go_at_call 49; refine (index_any b cap ks hl x _ Hc.out).mono ?_; rintro e w' ⟨rfl, rfl⟩)
  go_ret
  exact ⟨by rw [← Hfin.out]; rfl, rfl⟩
end Go.Proofs.Ytiglkpgoakibaab
