/- Asked: the walk. Conditions: the cluster is valid, there are at most 1000 nudges. -/
import Derived.Test.YtiglkpgoakibaabTopP
namespace Go.Proofs.Ytiglkpgoakibaab
open Go.RowKit Go.Shelf PTopRegrouped Go.Proofs.YtiglkpgoakibaabW.PrintWords Go.Proofs.YtiglkpgoakibaabW.PrintLast
attribute [local go_sem] Oper.semAt_some
set_option linter.unusedSimpArgs false

/-- A beginning that is right, and what the run needs. -/
theorem run_beg {G H T : Int} {l : List S31} {ls : List Ng} (hk : ClOk G H l) (h0 : begErr G T l ls = 0) {P : Pl} {w : World} (hP : P.At w (l.map newNd)) (hG : P.G = G) (hH : P.H = H) (hls : P.ls = ls) :
    Calls Try.prog 18 #[.pointer (some ⟨P.p, 0, none⟩), .int .i64 T] w fun e w' => ∃ v1 v2, e = .returned (.tuple #[v1, v2]) ∧ w.grownBy w' (some P.bn) ∧ Ints w' w.heap.size v1 (askedL H G.toNat ls (l.map newNd) T.toNat) ∧ Ints w' w.heap.size v2 (rowsL H G.toNat ls (l.map newNd) T.toNat) := by
  obtain ⟨t0, t1, _, hr⟩ := begErr_zero h0
  obtain ⟨n, rfl⟩ := Int.eq_ofNat_of_zero_le t0
  have g0 := hk.G0
  have g1 := hk.G1
  obtain ⟨g, rfl⟩ := Int.eq_ofNat_of_zero_le (show 0 ≤ G by omega)
  have hl := hk.len
  have h1 := hk.H1
  refine (run_any P g hG (by omega) (by rw [hH]; exact h1) n (by omega) (l.map newNd) (newNd_ok hk) w hP (by rw [List.length_map]; exact hl) (fun x hx => by rw [List.length_map]; rw [hls] at hx; exact right_ok hk (hr x hx))).mono ?_
  rintro e w' ⟨v1, v2, rfl, hg, _, h2, h3⟩
  rw [hH, hls] at h2 h3
  exact ⟨v1, v2, rfl, hg, h2, h3⟩
theorem below_run {w w1 w2 : World} {g : Nat} (hb : Below w.heap.size w w1) (hg : w1.grownBy w2 (some g)) (hw : w.heap.size ≤ g) : Below w.heap.size w w2 := hb.grown hg hb.size (fun k e => by cases e; exact hw)

def AskedPost (G H T : Int) (l : List S31) (ls : List Ng) (w : World) (e : Ending) (w' : World) : Prop :=
  Below w.heap.size w w' ∧ (if begErr G T l ls = 0 then ∃ v, e = .returned (.tuple #[v, .int .i64 0]) ∧ Ints w' w.heap.size v (askedL H G.toNat ls (l.map newNd) T.toNat) else e = .returned (.tuple #[.slice none 0 0, .int .i64 (begErr G T l ls)]))

set_option maxRecDepth 100000 in
set_option maxHeartbeats 1000000 in
theorem asked_any {G H : Int} (T : Int) {A : Option Addr} {b off c : Nat} {l : List S31} (hk : ClOk G H l) (hlc : l.length ≤ c) (w : World) (hc : ClAt w A b off l)
    (Al : Option Addr) (nb noff lc : Nat) (ls : List Ng) (hls : ls.length ≤ 1000) (hA : 0 < ls.length → Al = some ⟨nb, noff, none⟩) (hn : NgAt w nb noff ls) (hnb : nb < w.heap.size) :
    Calls Try.prog 11 #[.agg #[.int .i64 G, .int .i64 H, .slice A l.length c], .int .i64 T, .slice Al ls.length lc] w (AskedPost G H T l ls w) := by
  have hu24 := Try.underlying24
  have HC := Lib.hid hc
  have HN := Lib.hid hn
  by_cases h0 : begErr G T l ls = 0
  · have HE := Lib.hid h0
    clear h0 hc hn
    go_enter Try.func11, Try.ntmps11
    go_wp2_with (first | (go_at_call 17; refine (beg_any T hk hlc _ (HC.out.alloc _) Al nb noff lc ls hls hA (HN.out.keep (fun o => Below.cell ((Below.refl _ w).alloc (Nat.le_refl _) _) hnb)) (by simp; omega)).mono ?_; rintro e w1 ⟨hB1, hp⟩; rw [if_pos HE.out] at hp; obtain ⟨P, rfl, hP, hpG, hpH, hpl, hp1, hp2⟩ := hp; have HP := Lib.hid hP; have HG := Lib.hid hpG; have HH := Lib.hid hpH; have HL := Lib.hid hpl; clear hP hpG hpH hpl) | (go_at_call 18; refine (run_beg hk HE.out HP.out HG.out HH.out HL.out).mono ?_; rintro e w2 ⟨v1, v2, rfl, hg2, hv1, hv2⟩))
    go_ret2
    have hB := (((Below.refl _ w).alloc (Nat.le_refl _) _).trans (hB1.mono (by simp)))
    refine ⟨below_run hB hg2 (by simp at hp2; omega), ?_⟩
    rw [if_pos HE.out]
    exact ⟨_, rfl, hv1.lower hB.size⟩
  · have HE := Lib.hid h0
    obtain ⟨er, her⟩ : ∃ er, begErr G T l ls = er := ⟨_, rfl⟩
    have hne : (er == 0) = false := by rw [← her]; simpa using h0
    have HR := Lib.hid her
    clear h0 hc hn her
    go_enter Try.func11, Try.ntmps11
    go_wp2_with (first | (go_at_call 17; refine (beg_any T hk hlc _ (HC.out.alloc _) Al nb noff lc ls hls hA (HN.out.keep (fun o => Below.cell ((Below.refl _ w).alloc (Nat.le_refl _) _) hnb)) (by simp; omega)).mono ?_; rintro e w1 ⟨hB1, hp⟩; rw [if_neg HE.out, HR.out] at hp; subst hp))
    go_ret2
    have hB := (((Below.refl _ w).alloc (Nat.le_refl _) _).trans (hB1.mono (by simp)))
    refine ⟨hB, ?_⟩
    rw [if_neg HE.out, HR.out]
    rfl
end Go.Proofs.Ytiglkpgoakibaab
