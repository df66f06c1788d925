/- A play that begins: its nodes. Words alone. No condition. -/
import Derived.Test.YtiglkpgoakibaabOk
namespace Go.Proofs.Ytiglkpgoakibaab
open Go.RowKit PTopRegrouped Go.Proofs.YtiglkpgoakibaabW.PrintWords

theorem info68 : (Try.prog.info? 68).map (fun i => (i.zero, i.size, i.bytes)) = some (some (.agg #[.int .i64 0, .int .i64 0, .int .i64 0, .int .i64 0, .int .i64 0, .int .i64 0, .int .i64 0, .int .i64 0, .int .i64 0, .int .i64 0, .int .i64 0, .int .i64 0, .int .i64 0, .int .i64 0, .int .i64 0, .int .i64 0, .bool false]), 17, 136) := by kernel_rfl

/-- A node when a play begins. -/
def newNd (s : S31) : Nd := { s := s, asks := 0, tm := List.replicate 9 0, tok := s.f3, aw := false }
theorem newNd_nine (l : List S31) : Nine (l.map newNd) := fun x hx => by
  obtain ⟨s, _, rfl⟩ := List.mem_map.1 hx
  simp [newNd]
theorem newNd_ok {G H : Int} {l : List S31} (h : ClOk G H l) : AllOk (l.map newNd) := fun x hx => by
  obtain ⟨s, hs, rfl⟩ := List.mem_map.1 hx
  have hn := h.nd s hs
  unfold nodeB at hn
  simp only [Bool.and_eq_true, win_iff] at hn
  refine ⟨by simp [newNd], fun t ht => ?_, ?_⟩
  · simp [newNd] at ht
    omega
  · exact ⟨by simp only [newNd]; omega, by simp only [newNd]; omega, by simp only [newNd]; omega, by simp only [newNd]; omega, by simp only [newNd]; omega, by simp only [newNd]; omega⟩
theorem bits_one (a : Int) : Go.bits .and .i64 a 1 = 1 → True := fun _ => trivial
/-- Nudges that are right, as a play needs them. -/
theorem right_ok {G H T : Int} {l : List S31} (h : ClOk G H l) {x : Ng} (hx : rightF G T l x = true) : NgOk l.length x := by
  unfold rightF at hx
  simp only [Bool.and_eq_true, win_iff] at hx
  obtain ⟨h1, h2, h3⟩ := hx
  refine ⟨h2.1, by omega, fun hk => ?_, fun hk => ?_⟩
  · rw [if_pos hk] at h3
    simp only [Bool.and_eq_true, win_iff] at h3
    have := h.G1
    omega
  · rw [if_neg (by omega), if_neg (by omega), if_pos hk] at h3
    simp only [Bool.and_eq_true, win_iff] at h3
    omega
/-- What a play's beginning says: 0, or what is wrong. -/
def begErr (G T : Int) (l : List S31) (ls : List Ng) : Int := if win T 0 1000 then (if decide (ls.length > 200) || ls.any (fun x => !rightF G T l x) then 91 else 0) else 1
theorem ndCells_snoc (ns : List Nd) (x : Nd) : ndCells (ns ++ [x]) = ndCells ns ++ x.cells := by simp [ndCells]
end Go.Proofs.Ytiglkpgoakibaab
