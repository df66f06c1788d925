/- A knot is found or made (node): the walk. Condition: the forest lies there, both ways lead on. -/
import Derived.Test.YtiglkpgoakibaaaBranch
import Derived.RangeFuncBox
namespace Go.Proofs.Ytiglkpgoakibaaa
open Go.RowKit Go.Maps PTopKnots Go.Proofs.YtiglkpgoakibaaaW.PrintWords Go.Proofs.YtiglkpgoakibaaaW.PrintLast
set_option linter.unusedVariables false
attribute [local go_sem] Oper.semAt_some
set_option linter.unusedSimpArgs false

theorem info71 : (Try.prog.info? 71).map (fun i => (i.zero, i.size, i.bytes)) = some (some (.agg #[.int .i64 0, .int .i64 0, .int .i64 0]), 3, 24) := by kernel_rfl
theorem wrap_nat (n : Nat) (h : n ≤ 1099511627776) : wrap64 (n : Int) = n := by unfold wrap64; omega
theorem three_one (a b c : Int) : ∀ u ∈ [Value.int .i64 a, .int .i64 b, .int .i64 c], u.oneCell' = true := fun u hu => by
  simp only [List.mem_cons, List.not_mem_nil, or_false] at hu
  rcases hu with rfl | rfl | rfl <;> rfl
theorem cell_alloc {w : World} {p : Addr} {u : Value} (h : w.cell? p = some u) (o : Obj) : (w.alloc o).cell? p = some u := pw_cell_below ((Below.refl _ w).alloc (Nat.le_refl _) o) h
theorem cell_grown' {w w' : World} {row : Option Nat} {p : Addr} {u : Value} (h : w.cell? p = some u) (hg : w.grownBy w' row) (hne : some p.block ≠ row) : w'.cell? p = some u :=
  (World.cell?_of_block (hg.block p.block (World.block_lt_of_cell? w p h) hne)).trans h
def NodePost (N c : Nat) (Ks : List Kn) (w : World) (F : Fb) (o l h : Nat) (e : Ending) (w' : World) : Prop :=
  ∃ (n : Nat) (F' : Fb) (K' : List Kn), e = .returned (.int .i64 n) ∧ Fo w' F' N K' (c + 1) ∧ Stp w F Ks w' F' K' ∧ n < K'.length ∧ o ≤ lv K' n ∧ ∀ v, ev K' n v = if v o then ev K' h v else ev K' l v

set_option maxRecDepth 100000 in
set_option maxHeartbeats 1000000 in
theorem node_any {w : World} {F : Fb} {N c : Nat} {Ks : List Kn} (hf : Fo w F N Ks c) (hN : N ≤ 1000) (hc : c ≤ 1073741824) {o l h : Nat} (ho : o < N) (hl : l < Ks.length) (hh : h < Ks.length) (hlo : o < lv Ks l) (hho : o < lv Ks h) :
    Calls Try.prog 39 #[.pointer (some ⟨F.p, 0, none⟩), .int .i64 o, .int .i64 l, .int .i64 h] w (NodePost N c Ks w F o l h) := by
  have hmx : Try.prog.follows .mixedOrders = true := by kernel_rfl
  have hlen := hf.len
  by_cases he : l = h
  · subst he
    have hfin : NodePost N c Ks w F o l l (.returned (.int .i64 l)) w := ⟨l, F, Ks, rfl, hf.more (by omega), Stp.refl w F Ks, hl, by omega, fun v => by cases v o <;> rfl⟩
    have HF := Lib.hid hfin
    clear hf hfin
    go_enter Try.func39, Try.ntmps39
    go_wp2
    go_ret
    exact HF.out
  · have he' : (((l : Nat) : Int) == (h : Int)) = false := by simp; omega
    have HE := Lib.hid he
    have s1 : Sm (o : Int) := Sm.nat (by omega)
    have s2 : Sm (l : Int) := Sm.nat (by omega)
    have s3 : Sm (h : Int) := Sm.nat (by omega)
    have HKEY := Lib.hid (k3_71 s1 s2 s3)
    have HF := Lib.hid hf
    clear hf he
    go_enter Try.func39, Try.ntmps39
    go_upto_region 4 with fail
    obtain ⟨w1, hw1⟩ : ∃ w1, w.alloc (.cells #[.int .i64 o, .int .i64 l, .int .i64 h] 71) = w1 := ⟨_, rfl⟩
    have hB1 : Below w.heap.size w w1 := by rw [← hw1]; exact (Below.refl _ w).alloc (Nat.le_refl _) _
    have k1 : w1.heap[w.heap.size]? = some (.cells #[.int .i64 o, .int .i64 l, .int .i64 h] 71 (0, 0)) := by rw [← hw1]; exact allocNew _ _ _ rfl
    have HF1 := Lib.hid (HF.out.below hB1)
    obtain ⟨x, bb, hlk, hS⟩ := HF1.out.kn.look law71 Try.underlying73 zero3 HKEY.out
    have HLK := Lib.hid hlk
    have HS := Lib.hid hS
    have K1 := Lib.hid k1
    have p2 : w1.cell? ⟨F.p, 2, none⟩ = some (.map (some F.mb)) := (blk_cell' HF1.out.box 2).trans rfl
    have q0 : w1.cell? ⟨w.heap.size, 0, none⟩ = some (.int .i64 o) := (blk_cell' k1 0).trans rfl
    have q1 : w1.cell? ⟨w.heap.size, 1, none⟩ = some (.int .i64 l) := (blk_cell' k1 1).trans rfl
    have q2 : w1.cell? ⟨w.heap.size, 2, none⟩ = some (.int .i64 h) := (blk_cell' k1 2).trans rfl
    have hpl := HF.out.pl
    rw [hw1]
    clear hw1 hlk hS k1
    refine wp_calm ?_
    refine start_ (n := 11) (S := fun w' => w'.cell? ⟨F.p, 2, none⟩ = some (.map (some F.mb)) ∧ w'.cell? ⟨w.heap.size, 0, none⟩ = some (.int .i64 o) ∧ w'.cell? ⟨w.heap.size, 1, none⟩ = some (.int .i64 l) ∧ w'.cell? ⟨w.heap.size, 2, none⟩ = some (.int .i64 h) ∧ (Instr.lookup 73 (.map (some F.mb)) (.agg #[.int .i64 o, .int .i64 l, .int .i64 h]) true).run Try.prog w' = .ok (.tuple #[.int .i64 x, .bool bb]) w') (ds := []) #[false, false, false, false, false, false, false, false, false, false, false] (by kernel_rfl) rfl rfl ⟨p2, q0, q1, q2, HLK.out w1.drew rfl⟩ (fun hHeld => ?_)
    refine pure_ (i := 0) (N := some 21) (v := ?_) (a' := ?_) #[true, false, false, false, false, false, false, false, false, false, false] rfl rfl (by kernel_rfl) (fun _ _ _ h => h) (Or.inl ⟨by rfl, ?_⟩) ?_ ?_
    rotate_left
    · intro w'
      go_simp
      with_reducible rfl
    rotate_left
    · simp only [Act.put, List.setIfInBounds_toArray, List.set_cons_zero, List.set_cons_succ, i64_w, i32_w]
      rfl
    refine pure_ (i := 1) (N := some 22) (v := ?_) (a' := ?_) #[true, true, false, false, false, false, false, false, false, false, false] rfl rfl (by kernel_rfl) (fun _ _ _ h => h) (Or.inl ⟨by rfl, ?_⟩) ?_ ?_
    rotate_left
    · intro w'
      go_simp
      with_reducible rfl
    rotate_left
    · simp only [Act.put, List.setIfInBounds_toArray, List.set_cons_zero, List.set_cons_succ, i64_w, i32_w]
      rfl
    refine pure_ (i := 2) (N := some 23) (v := ?_) (a' := ?_) #[true, true, true, false, false, false, false, false, false, false, false] rfl rfl (by kernel_rfl) (fun _ _ _ h => h) (Or.inl ⟨by rfl, ?_⟩) ?_ ?_
    rotate_left
    · intro w'
      go_simp
      with_reducible rfl
    rotate_left
    · simp only [Act.put, List.setIfInBounds_toArray, List.set_cons_zero, List.set_cons_succ, i64_w, i32_w]
      rfl
    refine take_ (i := 3) (N := some 24) (v := ?_) (a' := ?_) #[true, true, true, true, false, false, false, false, false, false, false] rfl rfl (by kernel_rfl) (fun _ _ _ h => h) (Or.inl ⟨by rfl, ?_⟩) hHeld ?_ ?_
    rotate_left
    · rintro w' ⟨s0, s1, s2, s3, s4⟩
      go_simp
      with_reducible rfl
    rotate_left
    · simp only [Act.put, List.setIfInBounds_toArray, List.set_cons_zero, List.set_cons_succ, i64_w, i32_w]
      rfl
    refine take_ (i := 4) (N := some 25) (v := ?_) (a' := ?_) #[true, true, true, true, true, false, false, false, false, false, false] rfl rfl (by kernel_rfl) (fun _ _ _ h => h) (Or.inl ⟨by rfl, ?_⟩) hHeld ?_ ?_
    rotate_left
    · rintro w' ⟨s0, s1, s2, s3, s4⟩
      go_simp
      with_reducible rfl
    rotate_left
    · simp only [Act.put, List.setIfInBounds_toArray, List.set_cons_zero, List.set_cons_succ, i64_w, i32_w]
      rfl
    refine take_ (i := 5) (N := some 26) (v := ?_) (a' := ?_) #[true, true, true, true, true, true, false, false, false, false, false] rfl rfl (by kernel_rfl) (fun _ _ _ h => h) (Or.inl ⟨by rfl, ?_⟩) hHeld ?_ ?_
    rotate_left
    · rintro w' ⟨s0, s1, s2, s3, s4⟩
      go_simp
      with_reducible rfl
    rotate_left
    · simp only [Act.put, List.setIfInBounds_toArray, List.set_cons_zero, List.set_cons_succ, i64_w, i32_w]
      rfl
    refine pure_ (i := 6) (N := some 20) (v := ?_) (a' := ?_) #[true, true, true, true, true, true, true, false, false, false, false] rfl rfl (by kernel_rfl) (fun _ _ _ h => h) (Or.inl ⟨by rfl, ?_⟩) ?_ ?_
    rotate_left
    · intro w'
      go_simp
      with_reducible rfl
    rotate_left
    · simp only [Act.put, List.setIfInBounds_toArray, List.set_cons_zero, List.set_cons_succ, i64_w, i32_w]
      rfl
    refine pure_ (i := 7) (N := some 27) (v := ?_) (a' := ?_) #[true, true, true, true, true, true, true, true, false, false, false] rfl rfl (by kernel_rfl) (fun _ _ _ h => h) (Or.inl ⟨by rfl, ?_⟩) ?_ ?_
    rotate_left
    · intro w'
      go_simp
      with_reducible rfl
    rotate_left
    · simp only [Act.put, List.setIfInBounds_toArray, List.set_cons_zero, List.set_cons_succ, i64_w, i32_w]
      rfl
    refine pure_ (i := 8) (N := some 28) (v := ?_) (a' := ?_) #[true, true, true, true, true, true, true, true, true, false, false] rfl rfl (by kernel_rfl) (fun _ _ _ h => h) (Or.inl ⟨by rfl, ?_⟩) ?_ ?_
    rotate_left
    · intro w'
      go_simp
      with_reducible rfl
    rotate_left
    · simp only [Act.put, List.setIfInBounds_toArray, List.set_cons_zero, List.set_cons_succ, i64_w, i32_w]
      rfl
    refine pure_ (i := 9) (N := some 10) (v := ?_) (a' := ?_) #[true, true, true, true, true, true, true, true, true, true, false] rfl rfl (by kernel_rfl) (fun _ _ _ h => h) (Or.inl ⟨by rfl, ?_⟩) ?_ ?_
    rotate_left
    · intro w'
      go_simp
      with_reducible rfl
    rotate_left
    · simp only [Act.put, List.setIfInBounds_toArray, List.set_cons_zero, List.set_cons_succ, i64_w, i32_w]
      rfl
    refine pure_ (i := 10) (N := some 11) (v := ?_) (a' := ?_) #[true, true, true, true, true, true, true, true, true, true, true] rfl rfl (by kernel_rfl) (fun _ _ _ h => h) (Or.inl ⟨by rfl, ?_⟩) ?_ ?_
    rotate_left
    · intro w'
      go_simp
      with_reducible rfl
    rotate_left
    · simp only [Act.put, List.setIfInBounds_toArray, List.set_cons_zero, List.set_cons_succ, i64_w, i32_w]
      rfl
    refine done_ (by kernel_rfl) ?_
    refine calm_normal ?_
    cases bb
    · go_wp2_with fail
      obtain ⟨w2, hw2⟩ : ∃ w2, w1.drew = w2 := ⟨_, rfl⟩
      have hB2 : Below w.heap.size w w2 := by rw [← hw2]; exact hB1.drew
      have HF2 : Hid (Fo w2 F N Ks c) := by rw [← hw2]; exact Lib.hid HF1.out.drew
      have K2 : Hid (w2.heap[w.heap.size]? = some (.cells #[.int .i64 o, .int .i64 l, .int .i64 h] 71 (0, 0))) := by rw [← hw2]; exact K1
      rw [hw2]
      have p1 : w2.cell? ⟨F.p, 1, none⟩ = some (.slice (some ⟨F.kb, 0, none⟩) Ks.length F.cap) := (blk_cell' HF2.out.box 1).trans rfl
      have q0 : w2.cell? ⟨w.heap.size, 0, none⟩ = some (.int .i64 o) := (blk_cell' K2.out 0).trans rfl
      have q1 : w2.cell? ⟨w.heap.size, 1, none⟩ = some (.int .i64 l) := (blk_cell' K2.out 1).trans rfl
      have q2 : w2.cell? ⟨w.heap.size, 2, none⟩ = some (.int .i64 h) := (blk_cell' K2.out 2).trans rfl
      have HO : w2.drew.ownsRow 0 71 3 (.slice (some ⟨F.kb, 0, none⟩) Ks.length F.cap) Ks.length (Ks.flatMap kcl) := HF2.out.row
      have hpl2 := HF2.out.pl
      have hkl2 := HF2.out.kl
      have hwl : w.heap.size < w2.heap.size := blk_lt' K2.out
      have hnk := HF2.out.n1
      clear hw2
      refine wp_calm ?_
      refine start_ (n := 11) (S := fun w' => w'.cell? ⟨F.p, 1, none⟩ = some (.slice (some ⟨F.kb, 0, none⟩) Ks.length F.cap) ∧ w'.cell? ⟨w.heap.size, 0, none⟩ = some (.int .i64 o) ∧ w'.cell? ⟨w.heap.size, 1, none⟩ = some (.int .i64 l) ∧ w'.cell? ⟨w.heap.size, 2, none⟩ = some (.int .i64 h)) (ds := [10]) #[false, false, false, false, false, false, false, false, false, false, false] (by kernel_rfl) rfl rfl ⟨p1, q0, q1, q2⟩ (fun hHeld => ?_)
      refine pure_ (i := 0) (N := some 31) (v := ?_) (a' := ?_) #[true, false, false, false, false, false, false, false, false, false, false] rfl rfl (by kernel_rfl) (fun _ _ _ h => h) (Or.inl ⟨by rfl, ?_⟩) ?_ ?_
      rotate_left
      · intro w'
        go_simp
        with_reducible rfl
      rotate_left
      · simp only [Act.put, List.setIfInBounds_toArray, List.set_cons_zero, List.set_cons_succ, i64_w, i32_w]
        rfl
      refine pure_ (i := 1) (N := some 32) (v := ?_) (a' := ?_) #[true, true, false, false, false, false, false, false, false, false, false] rfl rfl (by kernel_rfl) (fun _ _ _ h => h) (Or.inl ⟨by rfl, ?_⟩) ?_ ?_
      rotate_left
      · intro w'
        go_simp
        with_reducible rfl
      rotate_left
      · simp only [Act.put, List.setIfInBounds_toArray, List.set_cons_zero, List.set_cons_succ, i64_w, i32_w]
        rfl
      refine pure_ (i := 2) (N := some 33) (v := ?_) (a' := ?_) #[true, true, true, false, false, false, false, false, false, false, false] rfl rfl (by kernel_rfl) (fun _ _ _ h => h) (Or.inl ⟨by rfl, ?_⟩) ?_ ?_
      rotate_left
      · intro w'
        go_simp
        with_reducible rfl
      rotate_left
      · simp only [Act.put, List.setIfInBounds_toArray, List.set_cons_zero, List.set_cons_succ, i64_w, i32_w]
        rfl
      refine pure_ (i := 3) (N := some 34) (v := ?_) (a' := ?_) #[true, true, true, true, false, false, false, false, false, false, false] rfl rfl (by kernel_rfl) (fun _ _ _ h => h) (Or.inl ⟨by rfl, ?_⟩) ?_ ?_
      rotate_left
      · intro w'
        go_simp
        with_reducible rfl
      rotate_left
      · simp only [Act.put, List.setIfInBounds_toArray, List.set_cons_zero, List.set_cons_succ, i64_w, i32_w]
        rfl
      refine take_ (i := 4) (N := some 35) (v := ?_) (a' := ?_) #[true, true, true, true, true, false, false, false, false, false, false] rfl rfl (by kernel_rfl) (fun _ _ _ h => h) (Or.inl ⟨by rfl, ?_⟩) hHeld ?_ ?_
      rotate_left
      · rintro w' ⟨s0, s1, s2, s3⟩
        go_simp
        with_reducible rfl
      rotate_left
      · simp only [Act.put, List.setIfInBounds_toArray, List.set_cons_zero, List.set_cons_succ, i64_w, i32_w]
        rfl
      refine take_ (i := 5) (N := some 36) (v := ?_) (a' := ?_) #[true, true, true, true, true, true, false, false, false, false, false] rfl rfl (by kernel_rfl) (fun _ _ _ h => h) (Or.inl ⟨by rfl, ?_⟩) hHeld ?_ ?_
      rotate_left
      · rintro w' ⟨s0, s1, s2, s3⟩
        go_simp
        with_reducible rfl
      rotate_left
      · simp only [Act.put, List.setIfInBounds_toArray, List.set_cons_zero, List.set_cons_succ, i64_w, i32_w]
        rfl
      refine one_ (i := 6) (N := some 37) #[true, true, true, true, true, true, true, false, false, false, false] rfl rfl (by kernel_rfl) (by decide) (fun K hK => ?_)
      refine value_ (w1 := ?_) (v := ?_) (by rfl) rfl ?_ ?_
      rotate_left 2
      · go_simp
        constructor
        · rfl
        · rfl
      refine hK.out _ _ ⟨cell_alloc hHeld.1 _, cell_alloc hHeld.2.1 _, cell_alloc hHeld.2.2.1 _, cell_alloc hHeld.2.2.2 _⟩ (fun hHeld => ?_)
      clear hK K
      refine norm_ (a' := ?_) ?_ ?_
      rotate_left
      · show Act.put _ (some 37) _ = _
        simp only [Act.put, List.setIfInBounds_toArray, List.set_cons_zero, List.set_cons_succ, i64_w, i32_w]
        rfl
      refine one_ (i := 7) (N := some 38) #[true, true, true, true, true, true, true, true, false, false, false] rfl rfl (by kernel_rfl) (by decide) (fun K hK => ?_)
      refine step_append_cells (w0 := w2.drew) (W := w2.drew) 0 (by rfl) _ _ 72 71 _ 3 24 rfl Try.underlying72 info71 rfl (by decide) (by decide) (.slice (some ⟨F.kb, 0, none⟩) Ks.length F.cap) Ks.length (Ks.flatMap kcl) [.int .i64 o, .int .i64 l, .int .i64 h] rfl rfl rfl (three_one _ _ _) HO (Below.refl 0 _) (Nat.zero_le _) (by omega) ?_
      intro v1 w5 hown hbl hgr hat
      obtain ⟨g1, cap1, rfl⟩ := ownsRow_succ hown
      have hneb : some F.p ≠ (Value.slice (some ⟨F.kb, 0, none⟩) Ks.length F.cap).ownBlock := fun e => hnk (Option.some.inj e)
      have hnew : some w.heap.size ≠ (Value.slice (some ⟨F.kb, 0, none⟩) Ks.length F.cap).ownBlock := fun e => by have := Option.some.inj e; dsimp only at this; have := HF.out.kl; omega
      have h5p := (hgr.block F.p hpl2 hneb).trans HF2.out.box
      have h5f : ∀ i, w5.frozen? ⟨F.p, i, none⟩ = false := fun i => blk_frozen' h5p i
      refine hK.out _ _ ⟨cell_grown' (w := w2.drew) p1 hgr hneb, cell_grown' (w := w2.drew) q0 hgr hnew, cell_grown' (w := w2.drew) q1 hgr hnew, cell_grown' (w := w2.drew) q2 hgr hnew⟩ (fun hHeld => ?_)
      clear hK K
      refine norm_ (a' := ?_) ?_ ?_
      rotate_left
      · show Act.put _ (some 38) _ = _
        simp only [Act.put, List.setIfInBounds_toArray, List.set_cons_zero, List.set_cons_succ, i64_w, i32_w]
        rfl
      refine pure_ (i := 8) (N := some 39) (v := ?_) (a' := ?_) #[true, true, true, true, true, true, true, true, true, false, false] rfl rfl (by kernel_rfl) (fun _ _ _ h => h) (Or.inl ⟨by rfl, ?_⟩) ?_ ?_
      rotate_left
      · intro w'
        go_simp
        with_reducible rfl
      rotate_left
      · simp only [Act.put, List.setIfInBounds_toArray, List.set_cons_zero, List.set_cons_succ, i64_w, i32_w]
        rfl
      refine pure_ (i := 9) (N := some 40) (v := ?_) (a' := ?_) #[true, true, true, true, true, true, true, true, true, true, false] rfl rfl (by kernel_rfl) (fun _ _ _ h => h) (Or.inl ⟨by rfl, ?_⟩) ?_ ?_
      rotate_left
      · intro w'
        go_simp
        with_reducible rfl
      rotate_left
      · simp only [Act.put, List.setIfInBounds_toArray, List.set_cons_zero, List.set_cons_succ, i64_w, i32_w]
        rfl
      refine last_ (i := 10) (N := none) #[true, true, true, true, true, true, true, true, true, true, true] rfl rfl (by kernel_rfl) (by decide) (fun K hK => ?_)
      refine skip_ (w1 := ?_) (by rfl) rfl ?_ ?_
      rotate_left
      · go_simp
        rfl
      refine hK.out _ _ ?_
      clear hK K
      refine done_ (by kernel_rfl) ?_
      refine calm_normal ?_
      go_wp2_with fail
      obtain ⟨w6, hw6⟩ : ∃ w6, w5.setCell ⟨F.p, 1, none⟩ (.slice (some ⟨g1, 0, none⟩) (Ks.length + 1) cap1) = w6 := ⟨_, rfl⟩
      have hg1 : g1 = F.kb ∨ w2.heap.size ≤ g1 := by
        rcases hat with e | ⟨b, e, hb⟩
        · exact .inl (Option.some.inj e)
        · have e2 : g1 = b := Option.some.inj e
          have hb' : w2.heap.size ≤ b := hb
          exact .inr (by omega)
      have n1 : F.p ≠ g1 := by rcases hg1 with e | e <;> omega
      have hml := HF2.out.kn.lt
      have hjl := HF2.out.jo.lt
      have n4 : g1 ≠ F.mb := by have := HF2.out.n4; rcases hg1 with e | e <;> omega
      have n5 : g1 ≠ F.jb := by have := HF2.out.n5; rcases hg1 with e | e <;> omega
      have hgr2 : w2.grownBy w5 (some F.kb) := grown_drew hgr
      have hgr6 : w5.grownBy w6 (some F.p) := by rw [← hw6]; exact grown_set _ _ _
      have hext : Ext Ks (Ks ++ [⟨o, l, h⟩]) := ⟨_, rfl⟩
      have hwf : WF N (Ks ++ [⟨o, l, h⟩]) := HF2.out.wf.snoc ho hl hh HE.out hlo hho
      have hkn6 : Sound w6 71 F.mb c (KS (Ks ++ [⟨o, l, h⟩])) := ((HF2.out.kn.kept hgr2 (fun e => HF2.out.n4 (Option.some.inj e).symm)).kept hgr6 (fun e => HF2.out.n2 (Option.some.inj e).symm)).imp (Nat.le_refl _) (KS.ext hext)
      have hjo6 : Sound w6 84 F.jb c (JS (Ks ++ [⟨o, l, h⟩])) := ((HF2.out.jo.kept hgr2 (fun e => HF2.out.n5 (Option.some.inj e).symm)).kept hgr6 (fun e => HF2.out.n3 (Option.some.inj e).symm)).imp (Nat.le_refl _) (JS.ext HF2.out.wf hwf hext)
      have hrow6 : w6.ownsRow 0 71 3 (.slice (some ⟨g1, 0, none⟩) (Ks.length + 1) cap1) (Ks.length + 1) ((Ks ++ [(⟨o, l, h⟩ : Kn)]).flatMap kcl) := by
        rw [show (Ks ++ [(⟨o, l, h⟩ : Kn)]).flatMap kcl = Ks.flatMap kcl ++ [.int .i64 o, .int .i64 l, .int .i64 h] from by rw [List.flatMap_append]; rfl]
        exact hown.kept hgr6 (.inr (fun e => n1 (Option.some.inj e).symm))
      have hbox6 : w6.heap[F.p]? = some (.cells #[.int .i64 N, .slice (some ⟨g1, 0, none⟩) (Ks.length + 1) cap1, .map (some F.mb), .map (some F.jb)] 76 (0, 0)) := by rw [← hw6]; exact heap_setCell_same _ _ 1 _ _ _ h5p
      have hKS : KS (Ks ++ [⟨o, l, h⟩]) (k3L o l h) (Ks.length : Int) := fun o' l' h' a1 a2 a3 hk => by
        obtain ⟨e1, e2, e3⟩ := k3L_inj s1 s2 s3 (Sm.nat a1) (Sm.nat a2) (Sm.nat a3) hk
        refine ⟨Ks.length, rfl, ?_⟩
        obtain rfl : o = o' := by omega
        obtain rfl : l = l' := by omega
        obtain rfl : h = h' := by omega
        simp
      obtain ⟨wS, hrS, hkS, hgS⟩ := Sound.store (w := w6.drew) (hkn6.same rfl) (by omega) law71 Try.underlying73 HKEY.out (Sm.nat (n := Ks.length) (by omega)).wf hKS
      have K6 : Hid (w6.heap[w.heap.size]? = some (.cells #[.int .i64 o, .int .i64 l, .int .i64 h] 71 (0, 0))) := (hgr6.block _ (by have := hgr2.size; omega) (fun e => by have := Option.some.inj e; omega)).trans ((hgr2.block _ hwl (fun e => hnew (by rw [e]; rfl))).trans K2.out)
      have p2 : w6.cell? ⟨F.p, 2, none⟩ = some (.map (some F.mb)) := (blk_cell' hbox6 2).trans rfl
      have p1 : w6.cell? ⟨F.p, 1, none⟩ = some (.slice (some ⟨g1, 0, none⟩) (Ks.length + 1) cap1) := (blk_cell' hbox6 1).trans rfl
      have q0 : w6.cell? ⟨w.heap.size, 0, none⟩ = some (.int .i64 o) := (blk_cell' K6.out 0).trans rfl
      have q1 : w6.cell? ⟨w.heap.size, 1, none⟩ = some (.int .i64 l) := (blk_cell' K6.out 1).trans rfl
      have q2 : w6.cell? ⟨w.heap.size, 2, none⟩ = some (.int .i64 h) := (blk_cell' K6.out 2).trans rfl
      have hgS' : w6.grownBy wS (some F.mb) := grown_drew hgS
      have hz26 : w2.heap.size ≤ w6.heap.size := Nat.le_trans hgr2.size hgr6.size
      have hfo : Fo wS ⟨F.p, g1, cap1, F.mb, F.jb⟩ N (Ks ++ [⟨o, l, h⟩]) (c + 1) := by
        refine ⟨?_, ?_, hkS, (hjo6.kept hgS' (fun e => HF2.out.n6 (Option.some.inj e).symm)).imp (by omega) (fun _ _ h => h), hwf, by simp; omega, n1, HF2.out.n2, HF2.out.n3, n4, n5, HF2.out.n6⟩
        · rw [List.length_append]
          exact (hgS'.block F.p (by omega) (fun e => HF2.out.n2 (Option.some.inj e))).trans hbox6
        · rw [List.length_append]
          exact hrow6.kept hgS' (.inr (fun e => n4 (Option.some.inj e)))
      have hstp : Stp w F Ks wS ⟨F.p, g1, cap1, F.mb, F.jb⟩ (Ks ++ [⟨o, l, h⟩]) := by
        refine ⟨hext, rfl, rfl, rfl, ?_, ?_, ?_, ?_, ?_, ?_⟩
        · rcases hg1 with e | e
          · exact .inl e
          · exact .inr (by dsimp only; have := hB2.size; omega)
        · exact hgS'.os.trans (hgr6.os.trans (hgr2.os.trans hB2.os))
        · exact hgS'.tape.trans (hgr6.tape.trans (hgr2.tape.trans hB2.tape))
        · exact hgS'.output.trans (hgr6.output.trans (hgr2.output.trans hB2.output))
        · exact Nat.le_trans hB2.size (Nat.le_trans hz26 hgS'.size)
        · intro b hb h1 h2 h3 h4
          have hz := hB2.size
          exact (hgS'.block b (by omega) (fun e => h3 (Option.some.inj e))).trans ((hgr6.block b (by have := hgr2.size; omega) (fun e => h1 (Option.some.inj e))).trans ((hgr2.block b (by omega) (fun e => h2 (Option.some.inj e))).trans (hB2.block b hb)))
      have hkn : (Ks ++ [(⟨o, l, h⟩ : Kn)])[Ks.length]? = some ⟨o, l, h⟩ := by simp
      have hfin : NodePost N c Ks w F o l h (.returned (.int .i64 Ks.length)) wS := by
        refine ⟨Ks.length, _, _, rfl, hfo, hstp, by simp, by rw [lv_of hkn]; exact Nat.le_refl o, fun v => ?_⟩
        have h2 := HF2.out.wf.two
        exact ev_k hwf h2 hkn v
      have wKl := wrap_nat Ks.length (by omega)
      have HFIN : Hid (NodePost N c Ks w F o l h (.returned (.int .i64 (wrap64 (Ks.length : Int)))) wS) := by
        rw [wKl]
        exact Lib.hid hfin
      have HFO := Lib.hid hfo
      rw [hw6]
      clear hw6 hfin hfo hstp hkn6 hjo6 hrow6 hbox6 hKS hkS hgS hkn hext hwf h5p h5f hown hHeld hgr hbl hat
      refine wp_calm ?_
      refine start_ (n := 12) (S := fun w' => w'.cell? ⟨F.p, 2, none⟩ = some (.map (some F.mb)) ∧ w'.cell? ⟨w.heap.size, 0, none⟩ = some (.int .i64 o) ∧ w'.cell? ⟨w.heap.size, 1, none⟩ = some (.int .i64 l) ∧ w'.cell? ⟨w.heap.size, 2, none⟩ = some (.int .i64 h) ∧ w'.cell? ⟨F.p, 1, none⟩ = some (.slice (some ⟨g1, 0, none⟩) (Ks.length + 1) cap1)) (ds := [11]) #[false, false, false, false, false, false, false, false, false, false, false, false] (by kernel_rfl) rfl rfl ⟨p2, q0, q1, q2, p1⟩ (fun hHeld => ?_)
      refine pure_ (i := 0) (N := some 41) (v := ?_) (a' := ?_) #[true, false, false, false, false, false, false, false, false, false, false, false] rfl rfl (by kernel_rfl) (fun _ _ _ h => h) (Or.inl ⟨by rfl, ?_⟩) ?_ ?_
      rotate_left
      · intro w'
        go_simp
        with_reducible rfl
      rotate_left
      · simp only [Act.put, List.setIfInBounds_toArray, List.set_cons_zero, List.set_cons_succ, i64_w, i32_w]
        rfl
      refine pure_ (i := 1) (N := some 42) (v := ?_) (a' := ?_) #[true, true, false, false, false, false, false, false, false, false, false, false] rfl rfl (by kernel_rfl) (fun _ _ _ h => h) (Or.inl ⟨by rfl, ?_⟩) ?_ ?_
      rotate_left
      · intro w'
        go_simp
        with_reducible rfl
      rotate_left
      · simp only [Act.put, List.setIfInBounds_toArray, List.set_cons_zero, List.set_cons_succ, i64_w, i32_w]
        rfl
      refine pure_ (i := 2) (N := some 43) (v := ?_) (a' := ?_) #[true, true, true, false, false, false, false, false, false, false, false, false] rfl rfl (by kernel_rfl) (fun _ _ _ h => h) (Or.inl ⟨by rfl, ?_⟩) ?_ ?_
      rotate_left
      · intro w'
        go_simp
        with_reducible rfl
      rotate_left
      · simp only [Act.put, List.setIfInBounds_toArray, List.set_cons_zero, List.set_cons_succ, i64_w, i32_w]
        rfl
      refine pure_ (i := 5) (N := some 46) (v := ?_) (a' := ?_) #[true, true, true, false, false, true, false, false, false, false, false, false] rfl rfl (by kernel_rfl) (fun _ _ _ h => h) (Or.inl ⟨by rfl, ?_⟩) ?_ ?_
      rotate_left
      · intro w'
        go_simp
        with_reducible rfl
      rotate_left
      · simp only [Act.put, List.setIfInBounds_toArray, List.set_cons_zero, List.set_cons_succ, i64_w, i32_w]
        rfl
      refine pure_ (i := 6) (N := some 47) (v := ?_) (a' := ?_) #[true, true, true, false, false, true, true, false, false, false, false, false] rfl rfl (by kernel_rfl) (fun _ _ _ h => h) (Or.inl ⟨by rfl, ?_⟩) ?_ ?_
      rotate_left
      · intro w'
        go_simp
        with_reducible rfl
      rotate_left
      · simp only [Act.put, List.setIfInBounds_toArray, List.set_cons_zero, List.set_cons_succ, i64_w, i32_w]
        rfl
      refine pure_ (i := 7) (N := some 48) (v := ?_) (a' := ?_) #[true, true, true, false, false, true, true, true, false, false, false, false] rfl rfl (by kernel_rfl) (fun _ _ _ h => h) (Or.inl ⟨by rfl, ?_⟩) ?_ ?_
      rotate_left
      · intro w'
        go_simp
        with_reducible rfl
      rotate_left
      · simp only [Act.put, List.setIfInBounds_toArray, List.set_cons_zero, List.set_cons_succ, i64_w, i32_w]
        rfl
      refine take_ (i := 3) (N := some 44) (v := ?_) (a' := ?_) #[true, true, true, true, false, true, true, true, false, false, false, false] rfl rfl (by kernel_rfl) (fun _ _ _ h => h) (Or.inl ⟨by rfl, ?_⟩) hHeld ?_ ?_
      rotate_left
      · rintro w' ⟨s0, s1, s2, s3, s4⟩
        go_simp
        with_reducible rfl
      rotate_left
      · simp only [Act.put, List.setIfInBounds_toArray, List.set_cons_zero, List.set_cons_succ, i64_w, i32_w]
        rfl
      refine take_ (i := 4) (N := some 45) (v := ?_) (a' := ?_) #[true, true, true, true, true, true, true, true, false, false, false, false] rfl rfl (by kernel_rfl) (fun _ _ _ h => h) (Or.inl ⟨by rfl, ?_⟩) hHeld ?_ ?_
      rotate_left
      · rintro w' ⟨s0, s1, s2, s3, s4⟩
        go_simp
        with_reducible rfl
      rotate_left
      · simp only [Act.put, List.setIfInBounds_toArray, List.set_cons_zero, List.set_cons_succ, i64_w, i32_w]
        rfl
      refine take_ (i := 8) (N := some 49) (v := ?_) (a' := ?_) #[true, true, true, true, true, true, true, true, true, false, false, false] rfl rfl (by kernel_rfl) (fun _ _ _ h => h) (Or.inl ⟨by rfl, ?_⟩) hHeld ?_ ?_
      rotate_left
      · rintro w' ⟨s0, s1, s2, s3, s4⟩
        go_simp
        with_reducible rfl
      rotate_left
      · simp only [Act.put, List.setIfInBounds_toArray, List.set_cons_zero, List.set_cons_succ, i64_w, i32_w]
        rfl
      refine pure_ (i := 9) (N := some 50) (v := ?_) (a' := ?_) #[true, true, true, true, true, true, true, true, true, true, false, false] rfl rfl (by kernel_rfl) (fun _ _ _ h => h) (Or.inl ⟨by rfl, ?_⟩) ?_ ?_
      rotate_left
      · intro w'
        go_simp
        with_reducible rfl
      rotate_left
      · simp only [Act.put, List.setIfInBounds_toArray, List.set_cons_zero, List.set_cons_succ, i64_w, i32_w]
        rfl
      refine pure_ (i := 10) (N := some 51) (v := ?_) (a' := ?_) #[true, true, true, true, true, true, true, true, true, true, true, false] rfl rfl (by kernel_rfl) (fun _ _ _ h => h) (Or.inl ⟨by rfl, ?_⟩) ?_ ?_
      rotate_left
      · intro w'
        go_simp
        with_reducible rfl
      rotate_left
      · simp only [Act.put, List.setIfInBounds_toArray, List.set_cons_zero, List.set_cons_succ, i64_w, i32_w]
        rfl
      refine last_ (i := 11) (N := none) #[true, true, true, true, true, true, true, true, true, true, true, true] rfl rfl (by kernel_rfl) (by decide) (fun K hK => ?_)
      refine skip_ (w1 := ?_) (by rfl) rfl ?_ ?_
      rotate_left
      · go_simp
        rfl
      refine hK.out _ _ ?_
      clear hK K
      refine done_ (by kernel_rfl) ?_
      refine calm_normal ?_
      have p1 : wS.cell? ⟨F.p, 1, none⟩ = some (.slice (some ⟨g1, 0, none⟩) (Ks ++ [(⟨o, l, h⟩ : Kn)]).length cap1) := (blk_cell' HFO.out.box 1).trans rfl
      rw [List.length_append, List.length_cons, List.length_nil, Nat.zero_add] at p1
      clear p2 q0 q1 q2 hrS
      go_wp2_with fail
      go_ret
      exact HFIN.out
    · obtain ⟨n, rfl, hkn⟩ := HS.out rfl o l h (by omega) (by omega) (by omega) rfl
      have hn2 := HF.out.wf.two_of hkn (by show o < N; exact ho)
      have hev := fun v => ev_k HF.out.wf hn2 hkn v
      have hfin : NodePost N c Ks w F o l h (.returned (.int .i64 n)) w1.drew := ⟨n, F, Ks, rfl, HF1.out.drew.more (by omega), Stp.of_below F Ks hB1.drew, (List.getElem?_eq_some_iff.1 hkn).1, by rw [lv_of hkn]; exact Nat.le_refl o, hev⟩
      have HFIN := Lib.hid hfin
      clear hkn hn2 hev hfin p2 q0 q1 q2
      go_wp2_with fail
      go_ret
      exact HFIN.out
end Go.Proofs.Ytiglkpgoakibaaa
