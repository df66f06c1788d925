/- A play begins (begin): the walk. Conditions: the cluster is valid, there are at most 1000 nudges. -/
import Derived.Test.YtiglkpgoakibaabBegP
import Derived.RangeFuncBox
import Derived.Laws.Rows
namespace Go.Proofs.Ytiglkpgoakibaab
open Go.RowKit Go.Shelf PTopRegrouped Go.Proofs.YtiglkpgoakibaabW.PrintWords Go.Proofs.YtiglkpgoakibaabW.PrintLast
attribute [local go_sem] Oper.semAt_some
set_option linter.unusedSimpArgs false

/-- What a beginning leaves. -/
def BegPost (G H T : Int) (l : List S31) (ls : List Ng) (w : World) (e : Ending) (w' : World) : Prop :=
  Below w.heap.size w w' ∧ (if begErr G T l ls = 0 then ∃ P : Pl, e = .returned (.tuple #[.pointer (some ⟨P.p, 0, none⟩), .int .i64 0]) ∧ P.At w' (l.map newNd) ∧ P.G = G ∧ P.H = H ∧ P.ls = ls ∧ w.heap.size ≤ P.p ∧ w.heap.size ≤ P.bn
    else e = .returned (.tuple #[.pointer none, .int .i64 (begErr G T l ls)]))

theorem nd_one (x : Nd) : ∀ u ∈ x.cells, u.oneCell' = true := fun u hu => by
  have := x.cells_one
  rw [Array.all_eq_true_iff_forall_mem] at this
  exact this u (by simpa using hu)
theorem cell_alloc {w : World} {p : Addr} {u : Value} (h : w.cell? p = some u) (o : Obj) : (w.alloc o).cell? p = some u := pw_cell_below ((Below.refl _ w).alloc (Nat.le_refl _) o) h
theorem cell_grown {w w' : World} {row : Option Nat} {p : Addr} {u : Value} (h : w.cell? p = some u) (hg : w.grownBy w' row) (hne : some p.block ≠ row) : w'.cell? p = some u :=
  (World.cell?_of_block (hg.block p.block (World.block_lt_of_cell? w p h) hne)).trans h
theorem row_ne {w : World} {base g size n : Nat} {e : TypeId} {v : Value} {xs : List Value} (hlt : g < base) (h : w.ownsRow base e size v n xs) : some g ≠ v.ownBlock := fun e => by
  have := World.ownsRow.lt h g e.symm
  omega
theorem row_old {w : World} {base g size n : Nat} {e : TypeId} {v : Value} {xs : List Value} (hlt : w.heap.size ≤ g) (h : w.ownsRow base e size v n xs) : some g ≠ v.ownBlock := fun e => by
  have := World.ownsRow.lt h g e.symm
  omega
theorem chk_mk {G H T : Int} {A : Option Addr} {b off c : Nat} {l : List S31} {w w' : World} (hG0 : 1 ≤ G) (hG1 : G ≤ 8) (hT0 : 0 ≤ T) (hT1 : T ≤ 1000) (hl : l.length ≤ 16) (hc : ClAt w A b off l)
    (hB : Below ((w.alloc (.cells #[.int .i64 G, .int .i64 H, .slice A l.length c] 24)).alloc (.cells #[.int .i64 T] 3)).heap.size ((w.alloc (.cells #[.int .i64 G, .int .i64 H, .slice A l.length c] 24)).alloc (.cells #[.int .i64 T] 3)) w') :
    ChkIn w' G H T A b off c l w.heap.size (w.heap.size + 1) where
  G0 := hG0
  G8 := hG1
  T0 := hT0
  T1 := hT1
  l16 := hl
  cl := ((hc.alloc _).alloc _).below hB ((hc.alloc _).alloc _).bb
  box := (hB.block _ (by simp; omega)).trans (allocOld (allocNew w _ _ rfl) _)
  tick := (hB.block _ (by simp)).trans (allocNew _ _ _ (by simp))
set_option maxRecDepth 100000 in
set_option maxHeartbeats 1000000 in
theorem beg_any {G H : Int} (T : Int) {A : Option Addr} {b off c : Nat} {l : List S31} (hk : ClOk G H l) (hlc : l.length ≤ c) (w : World) (hc : ClAt w A b off l)
    (Al : Option Addr) (nb noff lc : Nat) (ls : List Ng) (hls : ls.length ≤ 1000) (hA : 0 < ls.length → Al = some ⟨nb, noff, none⟩) (hn : NgAt w nb noff ls) (hnb : nb < w.heap.size) :
    Calls Try.prog 17 #[.agg #[.int .i64 G, .int .i64 H, .slice A l.length c], .int .i64 T, .slice Al ls.length lc] w (BegPost G H T l ls w) := by
  have hu24 := Try.underlying24
  have hct := sleep_ticks (clOk_iff.2 hk) T
  have hl16 := hk.len
  cases hw : win T 0 1000
  · have hE : begErr G T l ls = 1 := by unfold begErr; rw [hw]; rfl
    rw [hw] at hct
    have HE := Lib.hid hE
    have HT := Lib.hid hct
    have HC := Lib.hid hc
    have HK := Lib.hid hk
    have HN := Lib.hid hn
    clear hw hct hE hc hk hn
    go_enter Try.func17, Try.ntmps17
    go_wp2_with (go_at_call 22; refine (sleep_checkTicks.calls _ G H A c l T 1 _ (((HC.out.alloc _).alloc _).C (by omega)) hlc HT.out).mono ?_; rintro e w' ⟨rfl, hB⟩)
    go_ret2
    refine ⟨((((Below.refl _ w).alloc (Nat.le_refl _) _).alloc (by simp) _)).trans (hB.mono (by simp; omega)), ?_⟩
    rw [HE.out, if_neg (by decide)]
    rfl
  · rw [hw] at hct
    have HT := Lib.hid hct
    have HC := Lib.hid hc
    have HK := Lib.hid hk
    have HN := Lib.hid hn
    obtain ⟨hT0, hT1⟩ := win_iff.1 hw
    have hG0 := hk.G0
    have hG1 := hk.G1
    cases hb : (decide (ls.length > 200) || ls.any (fun x => !rightF G T l x))
    · have hE : begErr G T l ls = 0 := by unfold begErr; rw [hw, hb]; rfl
      have HE := Lib.hid hE
      have hor := hb
      rw [Bool.or_eq_false_iff] at hor
      have h2' : ls.length ≤ 200 := by have := of_decide_eq_false hor.1; omega
      have HA := Lib.hid hor.2
      clear hw hct hE hc hk hn hb hor
      go_enter Try.func17, Try.ntmps17
      go_wp2_with (first | (go_at_call 22; refine (sleep_checkTicks.calls _ G H A c l T 0 _ (((HC.out.alloc _).alloc _).C (by omega)) hlc HT.out).mono ?_; rintro e w' ⟨rfl, hB⟩; have hB0 := Lib.hid (Below.trans ((((Below.refl _ w).alloc (Nat.le_refl _) _).alloc (by simp) _)) (hB.mono (by simp; omega))); have HI := Lib.hid (chk_mk hG0 hG1 hT0 hT1 hl16 HC.out hB); have hsz := hB0.out.size; clear hB) | (go_at_call 27; refine (chk_any _ HI.out Al nb noff lc ls (by omega) hA (HN.out.keep (fun o => below_at hB0.out hnb)) (by omega)).mono ?_; rintro e w2 ⟨rfl, hB2⟩; rw [HA.out]; have HI2 := Lib.hid (HI.out.below hB2); have q0 : w2.cell? ⟨w.heap.size, 0, none⟩ = some (.int .i64 G) := (blk_cell' HI2.out.box 0).trans rfl; have q1 : w2.cell? ⟨w.heap.size, 1, none⟩ = some (.int .i64 H) := (blk_cell' HI2.out.box 1).trans rfl; have q2 : w2.cell? ⟨w.heap.size, 2, none⟩ = some (.slice A l.length c) := (blk_cell' HI2.out.box 2).trans rfl; have z0 : w.heap.size < w2.heap.size := blk_lt' HI2.out.box; have hB02 := Lib.hid (hB0.out.trans (hB2.mono hsz)); clear hB2))
      go_loopw [33] (fun i wr => ∃ (k : Nat) (v : Value), k ≤ l.length ∧ i = .int .i64 k ∧ wr.heap[w2.heap.size]? = some (.cells (plCells G H (.slice A l.length c) (.slice Al ls.length lc) v) 65 (0, 0)) ∧ wr.ownsRow (w2.heap.size + 1) 68 17 v k (ndCells ((l.take k).map newNd)) ∧ Below w2.heap.size w2 wr) (fun i _ => l.length - (intOf i).toNat)
      case atStart => exact ⟨0, .slice none 0 0, Nat.zero_le _, rfl, allocNew _ _ _ rfl, World.ownsRow_nil _ _ _ _, (Below.refl _ _).alloc (Nat.le_refl _) _⟩
      case round =>
        obtain ⟨k, v, hk, rfl, hp, HO, hB⟩ := hrel
        by_cases hlt : k < l.length
        · obtain ⟨s, hs⟩ : ∃ s, l[k]? = some s := ⟨_, List.getElem?_eq_getElem hlt⟩
          obtain ⟨wa, rfl⟩ : ∃ wa : World, wa = wr := ⟨_, rfl⟩
          have hcl := HI2.out.cl
          have hbb := hcl.bb
          obtain rfl := hcl.hA (by omega)
          have f0 : wa.cell? ⟨b, off + k * 5, none⟩ = some (.int .i64 s.f0) := (below_at hB hbb).trans (hcl.hc k s hs 0 _ rfl)
          have f1 : wa.cell? ⟨b, off + k * 5 + 1, none⟩ = some (.int .i64 s.f1) := (below_at hB hbb).trans (hcl.hc k s hs 1 _ rfl)
          have f2 : wa.cell? ⟨b, off + k * 5 + 2, none⟩ = some (.int .i64 s.f2) := (below_at hB hbb).trans (hcl.hc k s hs 2 _ rfl)
          have f3 : wa.cell? ⟨b, off + k * 5 + 3, none⟩ = some (.int .i64 s.f3) := (below_at hB hbb).trans (hcl.hc k s hs 3 _ rfl)
          have f4 : wa.cell? ⟨b, off + k * 5 + 4, none⟩ = some (.int .i64 s.f4) := (below_at hB hbb).trans (hcl.hc k s hs 4 _ rfl)
          have HS := Lib.hid hs
          have HP := Lib.hid hp
          have HOW := Lib.hid HO
          clear hs hp hcl HO
          have hmx : Try.prog.follows .mixedOrders = true := by kernel_rfl
          go_wp2
          obtain ⟨w3, hw3⟩ : ∃ w3, wa.alloc (.cells #[.int .i64 s.f0, .int .i64 s.f1, .int .i64 s.f2, .int .i64 s.f3, .int .i64 s.f4] 31) = w3 := ⟨_, rfl⟩
          have h3z : w3.heap.size = wa.heap.size + 1 := by subst hw3; simp
          have h3b : w3.heap[wa.heap.size]? = some (.cells #[.int .i64 s.f0, .int .i64 s.f1, .int .i64 s.f2, .int .i64 s.f3, .int .i64 s.f4] 31 (0, 0)) := by subst hw3; exact allocNew _ _ _ rfl
          have h3p : w3.heap[w2.heap.size]? = some (.cells (plCells G H (.slice (some ⟨b, off, none⟩) l.length c) (.slice Al ls.length lc) v) 65 (0, 0)) := by subst hw3; exact allocOld HP.out _
          have HO3 : Hid (w3.ownsRow (w2.heap.size + 1) 68 17 v k (ndCells ((l.take k).map newNd))) := by subst hw3; exact HOW.out.alloc _
          have hB3 : Below w2.heap.size w2 w3 := by subst hw3; exact hB.alloc hB.size _
          have hv4 := row_ne (Nat.lt_succ_self w2.heap.size) HO3.out
          have hv5 : some wa.heap.size ≠ v.ownBlock := row_old (Nat.le_refl _) HOW.out
          have p0 : w3.cell? ⟨w2.heap.size, 4, none⟩ = some v := (blk_cell' h3p 4).trans rfl
          have p1 : w3.cell? ⟨wa.heap.size, 0, none⟩ = some (.int .i64 s.f0) := (blk_cell' h3b 0).trans rfl
          have p2 : w3.cell? ⟨wa.heap.size, 1, none⟩ = some (.int .i64 s.f1) := (blk_cell' h3b 1).trans rfl
          have p3 : w3.cell? ⟨wa.heap.size, 2, none⟩ = some (.int .i64 s.f2) := (blk_cell' h3b 2).trans rfl
          have p4 : w3.cell? ⟨wa.heap.size, 3, none⟩ = some (.int .i64 s.f3) := (blk_cell' h3b 3).trans rfl
          have p5 : w3.cell? ⟨wa.heap.size, 4, none⟩ = some (.int .i64 s.f4) := (blk_cell' h3b 4).trans rfl
          have HO : w3.drew.ownsRow (w2.heap.size + 1) 68 17 v k (ndCells ((l.take k).map newNd)) := HO3.out
          have hz3 := hB3.size
          have hzd : w3.drew.heap.size = w3.heap.size := rfl
          have hz4 : w2.heap.size < wa.heap.size := blk_lt' HP.out
          rw [hw3]
          clear hw3 q0 q1 q2
          refine wp_calm ?_
          refine start_ (n := 14) (S := fun w' => w'.cell? ⟨w2.heap.size, 4, none⟩ = some v ∧ w'.cell? ⟨wa.heap.size, 0, none⟩ = some (.int .i64 s.f0) ∧ w'.cell? ⟨wa.heap.size, 1, none⟩ = some (.int .i64 s.f1) ∧ w'.cell? ⟨wa.heap.size, 2, none⟩ = some (.int .i64 s.f2) ∧ w'.cell? ⟨wa.heap.size, 3, none⟩ = some (.int .i64 s.f3) ∧ w'.cell? ⟨wa.heap.size, 4, none⟩ = some (.int .i64 s.f4)) (ds := [13]) #[false, false, false, false, false, false, false, false, false, false, false, false, false, false] (by kernel_rfl) rfl rfl ⟨p0, p1, p2, p3, p4, p5⟩ (fun hHeld => ?_)
          refine pure_ (i := 0) (N := some 37) (v := ?_) (a' := ?_) #[true, false, false, false, false, false, false, false, false, false, false, false, false, false] rfl rfl (by kernel_rfl) (fun _ _ _ h => h) (Or.inl ⟨by rfl, ?_⟩) ?_ ?_
          rotate_left
          · intro w'
            go_simp
            with_reducible rfl
          rotate_left
          · simp only [Act.put, List.setIfInBounds_toArray, List.set_cons_zero, List.set_cons_succ, i64_w, i32_w]
            rfl
          refine pure_ (i := 1) (N := some 38) (v := ?_) (a' := ?_) #[true, true, false, false, false, false, false, false, false, false, false, false, false, false] rfl rfl (by kernel_rfl) (fun _ _ _ h => h) (Or.inl ⟨by rfl, ?_⟩) ?_ ?_
          rotate_left
          · intro w'
            go_simp
            with_reducible rfl
          rotate_left
          · simp only [Act.put, List.setIfInBounds_toArray, List.set_cons_zero, List.set_cons_succ, i64_w, i32_w]
            rfl
          refine pure_ (i := 2) (N := some 39) (v := ?_) (a' := ?_) #[true, true, true, false, false, false, false, false, false, false, false, false, false, false] rfl rfl (by kernel_rfl) (fun _ _ _ h => h) (Or.inl ⟨by rfl, ?_⟩) ?_ ?_
          rotate_left
          · intro w'
            go_simp
            with_reducible rfl
          rotate_left
          · simp only [Act.put, List.setIfInBounds_toArray, List.set_cons_zero, List.set_cons_succ, i64_w, i32_w]
            rfl
          refine pure_ (i := 3) (N := some 40) (v := ?_) (a' := ?_) #[true, true, true, true, false, false, false, false, false, false, false, false, false, false] rfl rfl (by kernel_rfl) (fun _ _ _ h => h) (Or.inl ⟨by rfl, ?_⟩) ?_ ?_
          rotate_left
          · intro w'
            go_simp
            with_reducible rfl
          rotate_left
          · simp only [Act.put, List.setIfInBounds_toArray, List.set_cons_zero, List.set_cons_succ, i64_w, i32_w]
            rfl
          refine pure_ (i := 6) (N := some 43) (v := ?_) (a' := ?_) #[true, true, true, true, false, false, true, false, false, false, false, false, false, false] rfl rfl (by kernel_rfl) (fun _ _ _ h => h) (Or.inl ⟨by rfl, ?_⟩) ?_ ?_
          rotate_left
          · intro w'
            go_simp
            with_reducible rfl
          rotate_left
          · simp only [Act.put, List.setIfInBounds_toArray, List.set_cons_zero, List.set_cons_succ, i64_w, i32_w]
            rfl
          refine take_ (i := 4) (N := some 41) (v := ?_) (a' := ?_) #[true, true, true, true, true, false, true, false, false, false, false, false, false, false] rfl rfl (by kernel_rfl) (fun _ _ _ h => h) (Or.inl ⟨by rfl, ?_⟩) hHeld ?_ ?_
          rotate_left
          · rintro w' ⟨s0, s1, s2, s3, s4, s5⟩
            go_simp
            with_reducible rfl
          rotate_left
          · simp only [Act.put, List.setIfInBounds_toArray, List.set_cons_zero, List.set_cons_succ, i64_w, i32_w]
            rfl
          refine take_ (i := 5) (N := some 42) (v := ?_) (a' := ?_) #[true, true, true, true, true, true, true, false, false, false, false, false, false, false] rfl rfl (by kernel_rfl) (fun _ _ _ h => h) (Or.inl ⟨by rfl, ?_⟩) hHeld ?_ ?_
          rotate_left
          · rintro w' ⟨s0, s1, s2, s3, s4, s5⟩
            go_simp
            with_reducible rfl
          rotate_left
          · simp only [Act.put, List.setIfInBounds_toArray, List.set_cons_zero, List.set_cons_succ, i64_w, i32_w]
            rfl
          refine take_ (i := 7) (N := some 44) (v := ?_) (a' := ?_) #[true, true, true, true, true, true, true, true, false, false, false, false, false, false] rfl rfl (by kernel_rfl) (fun _ _ _ h => h) (Or.inl ⟨by rfl, ?_⟩) hHeld ?_ ?_
          rotate_left
          · rintro w' ⟨s0, s1, s2, s3, s4, s5⟩
            go_simp
            with_reducible rfl
          rotate_left
          · simp only [Act.put, List.setIfInBounds_toArray, List.set_cons_zero, List.set_cons_succ, i64_w, i32_w]
            rfl
          refine pure_ (i := 8) (N := some 45) (v := ?_) (a' := ?_) #[true, true, true, true, true, true, true, true, true, false, false, false, false, false] rfl rfl (by kernel_rfl) (fun _ _ _ h => h) (Or.inl ⟨by rfl, ?_⟩) ?_ ?_
          rotate_left
          · intro w'
            go_simp
            with_reducible rfl
          rotate_left
          · simp only [Act.put, List.setIfInBounds_toArray, List.set_cons_zero, List.set_cons_succ, i64_w, i32_w]
            rfl
          refine one_ (i := 9) (N := some 46) #[true, true, true, true, true, true, true, true, true, true, false, false, false, false] rfl rfl (by kernel_rfl) (by decide) (fun K hK => ?_)
          refine value_ (w1 := ?_) (v := ?_) (by rfl) rfl ?_ ?_
          rotate_left 2
          · go_simp
            constructor
            · rfl
            · rfl
          refine hK.out _ _ ⟨cell_alloc hHeld.1 _, cell_alloc hHeld.2.1 _, cell_alloc hHeld.2.2.1 _, cell_alloc hHeld.2.2.2.1 _, cell_alloc hHeld.2.2.2.2.1 _, cell_alloc hHeld.2.2.2.2.2 _⟩ (fun hHeld => ?_)
          clear hK K
          refine norm_ (a' := ?_) ?_ ?_
          rotate_left
          · show Act.put _ (some 46) _ = _
            simp only [Act.put, List.setIfInBounds_toArray, List.set_cons_zero, List.set_cons_succ, i64_w, i32_w]
            rfl
          refine one_ (i := 10) (N := some 47) #[true, true, true, true, true, true, true, true, true, true, true, false, false, false] rfl rfl (by kernel_rfl) (by decide) (fun K hK => ?_)
          refine step_append_cells (w0 := w3.drew) (W := w3.drew) (w2.heap.size + 1) (by rfl) _ _ 63 68 _ 17 136 rfl Try.underlying63 info68 rfl (by decide) (by decide) v k (ndCells ((l.take k).map newNd)) (newNd s).cells rfl (by rw [show w3.drew.heap.size = wa.heap.size + 1 from h3z]; rfl) rfl (nd_one _) HO (Below.refl _ _) (by omega) (by omega) ?_
          intro v1 w5 hown hbl hgr hat
          obtain ⟨g1, cap1, rfl⟩ := ownsRow_succ hown
          have h5p : w5.heap[w2.heap.size]? = some (.cells (plCells G H (.slice (some ⟨b, off, none⟩) l.length c) (.slice Al ls.length lc) v) 65 (0, 0)) := (hgr.block _ (by omega) hv4).trans h3p
          have h5f : ∀ i, w5.frozen? ⟨w2.heap.size, i, none⟩ = false := fun i => blk_frozen' h5p i
          refine hK.out _ _ ⟨cell_grown (w := w3.drew) p0 hgr hv4, cell_grown (w := w3.drew) p1 hgr hv5, cell_grown (w := w3.drew) p2 hgr hv5, cell_grown (w := w3.drew) p3 hgr hv5, cell_grown (w := w3.drew) p4 hgr hv5, cell_grown (w := w3.drew) p5 hgr hv5⟩ (fun hHeld => ?_)
          clear hK K
          refine norm_ (a' := ?_) ?_ ?_
          rotate_left
          · show Act.put _ (some 47) _ = _
            simp only [Act.put, List.setIfInBounds_toArray, List.set_cons_zero, List.set_cons_succ, i64_w, i32_w]
            rfl
          refine pure_ (i := 11) (N := some 48) (v := ?_) (a' := ?_) #[true, true, true, true, true, true, true, true, true, true, true, true, false, false] rfl rfl (by kernel_rfl) (fun _ _ _ h => h) (Or.inl ⟨by rfl, ?_⟩) ?_ ?_
          rotate_left
          · intro w'
            go_simp
            with_reducible rfl
          rotate_left
          · simp only [Act.put, List.setIfInBounds_toArray, List.set_cons_zero, List.set_cons_succ, i64_w, i32_w]
            rfl
          refine pure_ (i := 12) (N := some 49) (v := ?_) (a' := ?_) #[true, true, true, true, true, true, true, true, true, true, true, true, true, false] rfl rfl (by kernel_rfl) (fun _ _ _ h => h) (Or.inl ⟨by rfl, ?_⟩) ?_ ?_
          rotate_left
          · intro w'
            go_simp
            with_reducible rfl
          rotate_left
          · simp only [Act.put, List.setIfInBounds_toArray, List.set_cons_zero, List.set_cons_succ, i64_w, i32_w]
            rfl
          refine last_ (i := 13) (N := none) #[true, true, true, true, true, true, true, true, true, true, true, true, true, true] rfl rfl (by kernel_rfl) (by decide) (fun K hK => ?_)
          refine skip_ (w1 := ?_) (by rfl) rfl ?_ ?_
          rotate_left
          · go_simp
            rfl
          refine hK.out _ _ ?_
          clear hK K
          refine done_ (by kernel_rfl) ?_
          refine calm_normal ?_
          go_wp2
          have hrow : ndCells ((l.take (k + 1)).map newNd) = ndCells ((l.take k).map newNd) ++ (newNd s).cells := by rw [take_succ' _ _ _ HS.out, List.map_append, List.map_cons, List.map_nil, ndCells_snoc]
          refine ⟨⟨k + 1, .slice (some ⟨g1, 0, none⟩) (k + 1) cap1, by omega, by simp, ?_, ?_, ?_⟩, by simp [intOf]; omega⟩
          · exact heap_setCell_same _ _ 4 _ _ _ h5p
          · rw [hrow]
            exact ownsRow_setCell_below hown (by simp) _
          · exact ((hB3.drew.trans (hbl.mono (by omega))).setCell (by simp) _)
        · obtain rfl : k = l.length := by omega
          rw [List.take_length] at HO
          go_wp2
          go_ret2
          refine ⟨(hB02.out.trans (hB.mono (by omega))), ?_⟩
          rw [HE.out, if_pos rfl]
          have hng : NgAt wr nb noff ls := HN.out.keep (fun o => (below_at hB (by omega)).trans (below_at hB02.out hnb))
          have hsz2 := hB.size
          rcases HO.2 with ⟨rfl, h0⟩ | ⟨g, cap, cur, rfl, hg, hgb, _⟩
          · have h0l : l.map newNd = [] := List.eq_nil_of_length_eq_zero (by simpa using h0)
            refine ⟨⟨w2.heap.size, w.heap.size, none, 0, G, H, .slice A l.length c, Al, nb, noff, lc, ls⟩, rfl, ?_, rfl, rfl, rfl, by dsimp only; omega, Nat.le_refl _⟩
            refine ⟨?_, ?_, .inl h0l, by dsimp only; omega, by dsimp only; omega, hA, hng, by dsimp only; omega, by dsimp only; omega, by dsimp only; omega⟩
            · rw [h0l]; exact hp
            · rw [h0l]; intro h; exact absurd h (Nat.lt_irrefl 0)
          · have hlt := blk_lt' hgb
            refine ⟨⟨w2.heap.size, g, some ⟨g, 0, none⟩, cap, G, H, .slice A l.length c, Al, nb, noff, lc, ls⟩, rfl, ?_, rfl, rfl, rfl, by dsimp only; omega, by dsimp only; omega⟩
            refine ⟨?_, fun _ => rfl, .inr ?_, by dsimp only; omega, by dsimp only; omega, hA, hng, by dsimp only; omega, by dsimp only; omega, by dsimp only; omega⟩
            · rw [List.length_map]; exact hp
            · rw [List.length_map]; exact own_weaken HO (Nat.zero_le _)
    · have hE : begErr G T l ls = 91 := by unfold begErr; rw [hw, hb]; rfl
      have HE := Lib.hid hE
      by_cases h2 : ls.length > 200
      · clear hw hct hE hc hk hn hb
        go_enter Try.func17, Try.ntmps17
        go_wp2_with (go_at_call 22; refine (sleep_checkTicks.calls _ G H A c l T 0 _ (((HC.out.alloc _).alloc _).C (by omega)) hlc HT.out).mono ?_; rintro e w' ⟨rfl, hB⟩)
        go_ret2
        refine ⟨((((Below.refl _ w).alloc (Nat.le_refl _) _).alloc (by simp) _)).trans (hB.mono (by simp; omega)), ?_⟩
        rw [HE.out, if_neg (by decide)]
        rfl
      · have hany : ls.any (fun x => !rightF G T l x) = true := by
          rw [decide_eq_false h2, Bool.false_or] at hb
          exact hb
        have HA := Lib.hid hany
        have h2' : ls.length ≤ 200 := by omega
        clear hw hct hE hc hk hn hb hany h2
        go_enter Try.func17, Try.ntmps17
        go_wp2_with (first | (go_at_call 22; refine (sleep_checkTicks.calls _ G H A c l T 0 _ (((HC.out.alloc _).alloc _).C (by omega)) hlc HT.out).mono ?_; rintro e w' ⟨rfl, hB⟩; have hB0 := Lib.hid (Below.trans ((((Below.refl _ w).alloc (Nat.le_refl _) _).alloc (by simp) _)) (hB.mono (by simp; omega))); have HI := Lib.hid (chk_mk hG0 hG1 hT0 hT1 hl16 HC.out hB); have hsz := hB0.out.size; clear hB) | (go_at_call 27; refine (chk_any _ HI.out Al nb noff lc ls (by omega) hA (HN.out.keep (fun o => below_at hB0.out hnb)) (by omega)).mono ?_; rintro e w2 ⟨rfl, hB2⟩; rw [HA.out]))
        go_ret2
        refine ⟨hB0.out.trans (hB2.mono hsz), ?_⟩
        rw [HE.out, if_neg (by decide)]
        rfl
end Go.Proofs.Ytiglkpgoakibaab
