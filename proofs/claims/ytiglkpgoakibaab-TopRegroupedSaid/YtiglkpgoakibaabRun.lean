/- All ticks of a play ((*play).run): the walk. -/
import Derived.Test.YtiglkpgoakibaabRunP
import Derived.Test.YtiglkpgoakibaabDist
import Derived.Test.YtiglkpgoakibaabSend
import Derived.Maps.AppendAt
namespace Go.Proofs.Ytiglkpgoakibaab
open Go.RowKit Go.Shelf PTopRegrouped Go.Proofs.YtiglkpgoakibaabW.PrintWords Go.Proofs.YtiglkpgoakibaabW.PrintLast
set_option linter.unusedSimpArgs false

/-- Whole numbers of the call's own, from block 'base' on. -/
def Ints (w : World) (base : Nat) (v : Value) (xs : List Int) : Prop := w.ownsRow base 3 1 v xs.length (xs.map (Value.int .i64))
theorem Ints.nil (w : World) (base : Nat) : Ints w base (.slice none 0 0) [] := World.ownsRow_nil w base 3 1
theorem Ints.kept {w w' : World} {base : Nat} {v : Value} {xs : List Int} {row : Option Nat} (h : Ints w base v xs) (hg : w.grownBy w' row) (hne : v.ownBlock = none ∨ v.ownBlock ≠ row) : Ints w' base v xs := World.ownsRow.kept h hg hne
theorem Ints.old {w w' : World} {base g : Nat} {v : Value} {xs : List Int} (h : Ints w base v xs) (hg : w.grownBy w' (some g)) (hlt : g < base) : Ints w' base v xs :=
  h.kept hg (by
    rcases hv : v.ownBlock with _ | k
    · exact .inl rfl
    · refine .inr (fun e => ?_)
      cases e
      have := World.ownsRow.lt h g hv
      omega)
theorem info3' : (Try.prog.info? 3).map (fun i => (i.zero, i.size, i.bytes)) = some (some (.int .i64 0), 1, 8) := by kernel_rfl

def RunPost (P : Pl) (G : Nat) (ns : List Nd) (T : Nat) (w : World) (e : Ending) (w' : World) : Prop :=
  ∃ v1 v2, e = .returned (.tuple #[v1, v2]) ∧ w.grownBy w' (some P.bn) ∧ NdRow w' P.bn P.nc (runNs P.H G P.ls ns T) ∧ Ints w' w.heap.size v1 (askedL P.H G P.ls ns T) ∧ Ints w' w.heap.size v2 (rowsL P.H G P.ls ns T)

theorem Ints.app {w w' : World} {base : Nat} {v' : Value} {xs : List Int} {x : Int} (h : w'.ownsRow base 3 1 v' (xs.length + 1) (xs.map (Value.int .i64) ++ [.int .i64 x])) : Ints w' base v' (xs ++ [x]) := by
  unfold Ints
  rw [List.length_append, List.map_append]
  exact h
theorem Ints.ne {w : World} {base g : Nat} {v : Value} {xs : List Int} (h : Ints w base v xs) (hlt : g < base) : some g ≠ v.ownBlock := fun e => by
  have := World.ownsRow.lt h g e.symm
  omega
theorem Ints.bel {w w' : World} {base g : Nat} {v : Value} {xs : List Int} (h : Ints w base v xs) (hg : w.grownBy w' v.ownBlock) (hb : base ≤ w.heap.size) : Bel base g w w' :=
  Bel.of_grown hg hb (fun k e => .inr (World.ownsRow.lt h k e).1)
/-- Two slices lie in two blocks. -/
def SepV (u v : Value) : Prop := ∀ k, u.ownBlock = some k → v.ownBlock = some k → False
theorem SepV.row {u v : Value} (h : SepV u v) : v.ownBlock = none ∨ v.ownBlock ≠ u.ownBlock := by
  rcases hv : v.ownBlock with _ | k
  · exact .inl rfl
  · exact .inr (fun e => h k e.symm hv)
theorem SepV.symm {u v : Value} (h : SepV u v) : SepV v u := fun k a b => h k b a
theorem row_none (v : Value) : v.ownBlock = none ∨ v.ownBlock ≠ none := by
  rcases v.ownBlock with _ | k
  · exact .inl rfl
  · exact .inr (by simp)
/-- A row that grows stays apart from another one. -/
theorem SepV.grow {w : World} {base : Nat} {v v' u : Value} {xs : List Int} (hs : SepV v u) (hl : v'.ownBlock = v.ownBlock ∨ v'.ownBlock = some w.heap.size) (hu : Ints w base u xs) : SepV v' u := fun k a b => by
  rcases hl with hl | hl
  · exact hs k (hl ▸ a) b
  · rw [hl] at a
    cases a
    have := (World.ownsRow.lt hu _ b).2
    omega

set_option maxRecDepth 100000 in
set_option maxHeartbeats 1000000 in
theorem run_any (P : Pl) (G : Nat) (hG : P.G = G) (hG8 : G ≤ 8) (hH : P.H ≤ 100) (T : Nat) (hT : T ≤ 1000) (ns : List Nd) (hok : AllOk ns) (w : World) (hP : P.At w ns) (hlen : ns.length ≤ 16) (hV : ∀ x ∈ P.ls, NgOk ns.length x) :
    Calls Try.prog 18 #[.pointer (some ⟨P.p, 0, none⟩), .int .i64 T] w (RunPost P G ns T w) := by
  obtain ⟨i0, hi, hz0, hz1, hz2⟩ := info_parts info3'
  have hbl := hP.bl
  have H0 := Lib.hid (And.intro hi (And.intro hz0 (And.intro hz1 hz2)))
  clear hi hz0 hz1 hz2
  go_enter Try.func18, Try.ntmps18
  go_wp2
  go_loopw [4, 5, 8] (fun v1 v2 i wr => ∃ k : Nat, k ≤ T ∧ i = .int .i64 k ∧ w.grownBy wr (some P.bn) ∧ NdRow wr P.bn P.nc (runNs P.H G P.ls ns k) ∧ Ints wr w.heap.size v1 (askedL P.H G P.ls ns k) ∧ Ints wr w.heap.size v2 (rowsL P.H G P.ls ns k) ∧ SepV v1 v2) (fun _ _ i _ => T - (intOf i).toNat)
  case atStart => exact ⟨0, Nat.zero_le _, rfl, ⟨rfl, rfl, rfl, Nat.le_refl _, fun _ _ _ => rfl⟩, hP.hn, Ints.nil _ _, Ints.nil _ _, fun k a _ => by cases a⟩
  case round =>
    obtain ⟨k, hk, rfl, hg, hr, h1, h2, hsep⟩ := hrel
    by_cases hlt : k < T
    · have hN := runNs_ok hH G hok P.ls k
      have hL := runNs_length P.H G P.ls ns k
      have hP1 : P.At wr (runNs P.H G P.ls ns k) := hP.turn hg hr hL
      obtain ⟨wa, rfl⟩ : ∃ wa : World, wa = wr := ⟨_, rfl⟩
      have HL := Lib.hid hL
      have HS := Lib.hid hsep
      have H1 := Lib.hid h1
      have H2 := Lib.hid h2
      clear hL hsep h1 h2
      go_wp2_with fail
      refine (ask_any P k _ hN.nine _ hP1 (by rw [HL.out]; exact hlen) (fun x hx hs => by rw [HL.out]; exact (hV x hx).askOk hs)).mono ?_
      rintro e w2 ⟨rfl, hg2, hr2⟩
      have hg02 : w.grownBy w2 (some P.bn) := hg.trans hg2
      have hsz2 : w.heap.size ≤ w2.heap.size := hg02.size
      have hl1 : (askedL P.H G P.ls ns k).length ≤ 1000 := by rw [askedL_length]; omega
      have hl2 : (rowsL P.H G P.ls ns k).length ≤ 1000 := by rw [rowsL_length]; omega
      obtain ⟨av, hav⟩ : ∃ av, orTo (askTo (runNs P.H G P.ls ns k) (P.ls.filter (ngSel k [1, 2]))) (runNs P.H G P.ls ns k).length = av := ⟨_, rfl⟩
      rw [hav]
      have HAV := Lib.hid hav
      clear hav
      have I1 := Lib.hid (H1.out.old hg2 hbl)
      go_wp2_with ((with_reducible refine gate_dst (N := 16) rfl ?_); go_must (refine wpList_append_own_at _ rfl _ _ 34 rfl w.heap.size 3 i0 (.int .i64 0) 1 8 Try.underlying34 H0.out.1 H0.out.2.1 H0.out.2.2.1 H0.out.2.2.2 rfl (by decide) _ _ _ rfl (World.ownsRow.alloc I1.out _) ⟨w2.heap.size, 0, none⟩ 1 1 [.int .i64 av] rfl rfl (cell_one_new _ _ _) (by simp [Value.oneCell']) (by unfold maxLen; omega) (by omega) (by simp; omega) ?_); intro v3 w3 hown3 hgrow3 hnil3 hloc3)
      have hgr3 : w2.grownBy w3 u4.ownBlock := (World.grownBy_alloc w2 _ _).trans hgrow3
      have J1 := Lib.hid (Ints.app (w := w2) hown3)
      have I2 := Lib.hid (H2.out.old hg2 hbl)
      have J2 := Lib.hid (I2.out.kept hgr3 HS.out.row)
      have SEP3 := Lib.hid (SepV.grow (w := w2.alloc (.cells #[.int .i64 av] 3)) HS.out hloc3 (I2.out.kept (World.grownBy_alloc w2 _ none) (row_none _)))
      have hB3 : Bel w.heap.size P.bn w2 w3 := I1.out.bel hgr3 hsz2
      have hr3 : NdRow w3 P.bn P.nc (tk1 P.ls k (runNs P.H G P.ls ns k)) := hr2.kept (fun hlt => hgr3.block _ hlt (I1.out.ne hbl))
      have hP3 : P.At w3 (tk1 P.ls k (runNs P.H G P.ls ns k)) := hP.turn (Bel.grown ((⟨hg02.os, hg02.tape, hg02.output, hg02.size, fun k hk hg => hg02.block k hk (by simpa using hg)⟩ : Bel w.heap.size P.bn w w2).trans hB3)) hr3 (by rw [tk1_length]; exact HL.out)
      have hb03 : Bel w.heap.size P.bn w w3 := (⟨hg02.os, hg02.tape, hg02.output, hg02.size, fun k hk hg => hg02.block k hk (by simpa using hg)⟩ : Bel w.heap.size P.bn w w2).trans hB3
      have hok1 := tk1_ok (runNs_ok hH G hok P.ls k) P.ls k
      have hl3 := tk1_length P.ls k (runNs P.H G P.ls ns k)
      rw [HL.out] at hl3
      obtain ⟨n1, hn1⟩ : ∃ n1, tk1 P.ls k (runNs P.H G P.ls ns k) = n1 := ⟨_, rfl⟩
      rw [hn1] at hP3 hok1 hl3 hr3
      have HN1 := Lib.hid hn1
      have HL3 := Lib.hid hl3
      clear hn1 hl3
      refine (disturb_any P k (by omega) (by omega) n1 hok1.nine hok1.bd _ hP3 (by rw [HL3.out]; exact hlen) (fun x hx hs => by rw [HL3.out]; exact (hV x hx).noiOk)).mono ?_
      rintro e w4 ⟨rfl, hg4, hr4⟩
      have hP4 : P.At w4 (tk2 P.H P.ls k n1) := hP3.turn hg4 hr4 (tk2_length _ _ _ _)
      have hok2 := tk2_ok hH hok1 P.ls k
      have hl4 := tk2_length P.H P.ls k n1
      rw [HL3.out] at hl4
      obtain ⟨n2, hn2⟩ : ∃ n2, tk2 P.H P.ls k n1 = n2 := ⟨_, rfl⟩
      rw [hn2] at hP4 hok2 hl4
      have HN2 := Lib.hid hn2
      have HL4 := Lib.hid hl4
      clear hn2 hl4
      go_wp2_with fail
      refine (send_any P G hG hG8 k n2 hok2.nine _ hP4 (by rw [HL4.out]; exact hlen) (fun x hx hs => by rw [HL4.out]; exact (hV x hx).lossOk hs)).mono ?_
      rintro e w5 ⟨rfl, hg5, hr5⟩
      have hP5 : P.At w5 (tk3 P.H G P.ls k n2) := hP4.turn hg5 hr5 (tk3_length _ _ _ _ _)
      have hok3 := tk3_ok hH G hok2 P.ls k
      have hl5 := tk3_length P.H G P.ls k n2
      rw [HL4.out] at hl5
      obtain ⟨n3, hn3⟩ : ∃ n3, tk3 P.H G P.ls k n2 = n3 := ⟨_, rfl⟩
      rw [hn3] at hP5 hok3 hl5
      have HN3 := Lib.hid hn3
      have HL5 := Lib.hid hl5
      clear hn3 hl5
      go_wp2_with fail
      refine (pass_any P.p P.bn P.nc P.An P.G P.H P.cn (.slice P.Al P.ls.length P.lc) n3 hP5.hA hok3.nine _ hP5.hp hP5.hn hP5.pn (by rw [HL5.out]; exact hlen) hok3.tms).mono ?_
      rintro e w6 ⟨rfl, hg6, hr6⟩
      have hg36 : w3.grownBy w6 (some P.bn) := hg4.trans (hg5.trans hg6)
      have hsz6 : w.heap.size ≤ w6.heap.size := Nat.le_trans hb03.size hg36.size
      obtain ⟨rv, hrv⟩ : ∃ rv, rowTo n3 n3.length = rv := ⟨_, rfl⟩
      rw [hrv]
      have HRV := Lib.hid hrv
      clear hrv
      have K1 := Lib.hid (J1.out.old hg36 hbl)
      have K2 := Lib.hid (J2.out.old hg36 hbl)
      go_wp2_with ((with_reducible refine gate_dst (N := 27) rfl ?_); refine wpList_append_own_at _ rfl _ _ 34 rfl w.heap.size 3 i0 (.int .i64 0) 1 8 Try.underlying34 H0.out.1 H0.out.2.1 H0.out.2.2.1 H0.out.2.2.2 rfl (by decide) _ _ _ rfl (World.ownsRow.alloc K2.out _) ⟨w6.heap.size, 0, none⟩ 1 1 [.int .i64 rv] rfl rfl (cell_one_new _ _ _) (by simp [Value.oneCell']) (by unfold maxLen; omega) (by omega) (by simp; omega) ?_; intro v7 w7 hown7 hgrow7 hnil7 hloc7)
      have hgr7 : w6.grownBy w7 u5.ownBlock := (World.grownBy_alloc w6 _ _).trans hgrow7
      have L2 := Lib.hid (Ints.app (w := w6) hown7)
      have L1 := Lib.hid (K1.out.kept hgr7 SEP3.out.symm.row)
      have SEP7 := SepV.grow (w := w6.alloc (.cells #[.int .i64 rv] 3)) SEP3.out.symm hloc7 (K1.out.kept (World.grownBy_alloc w6 _ none) (row_none _))
      have hb36 : Bel w.heap.size P.bn w3 w6 := (⟨hg36.os, hg36.tape, hg36.output, hg36.size, fun k hk hg => hg36.block k hk (by simpa using hg)⟩ : Bel w3.heap.size P.bn w3 w6).mono hb03.size
      have hb67 : Bel w.heap.size P.bn w6 w7 := K2.out.bel hgr7 hsz6
      have hr7 : NdRow w7 P.bn P.nc (runNs P.H G P.ls ns (k + 1)) := by
        rw [runNs, tick, HN1.out, HN2.out, HN3.out]
        exact hr6.kept (fun hlt => hgr7.block _ hlt (K2.out.ne hbl))
      refine ⟨⟨k + 1, by omega, by simp, ((hb03.trans hb36).trans hb67).grown, hr7, ?_, ?_, SEP7.symm⟩, by simp [intOf]; omega⟩
      · rw [askedL_succ, askedAt, ← HL.out, tk1, HAV.out]
        exact L1.out
      · rw [rowsL_succ, rowAt, HN1.out, HN2.out, HN3.out, ← HL5.out, HRV.out]
        exact L2.out
    · obtain rfl : k = T := by omega
      go_wp2
      go_ret2
      exact ⟨_, _, rfl, hg, hr, h1, h2⟩
end Go.Proofs.Ytiglkpgoakibaab
