/- Tokens and noise in a tick ((*play).disturb): the walk. -/
import Derived.Test.YtiglkpgoakibaabDistP
import Derived.Test.YtiglkpgoakibaabRound
namespace Go.Proofs.Ytiglkpgoakibaab
open Go.RowKit Go.Shelf PTopRegrouped Go.Proofs.YtiglkpgoakibaabW.PrintWords Go.Proofs.YtiglkpgoakibaabW.PrintLast
attribute [local go_sem] Oper.semAt_some
set_option linter.unusedSimpArgs false

set_option maxRecDepth 100000 in
set_option maxHeartbeats 1000000 in
theorem disturb_any (P : Pl) (tick : Int) (ht0 : 0 ≤ tick) (ht1 : tick ≤ 2000) (ns : List Nd) (h9 : Nine ns) (hbd : ∀ x ∈ ns, NdB x) (w : World) (hP : P.At w ns) (hlen : ns.length ≤ 16) (hV : ∀ x, x ∈ P.ls → ngSel tick [3] x = true → NoiOk ns.length x) :
    Calls Try.prog 31 #[.pointer (some ⟨P.p, 0, none⟩), .int .i64 tick] w fun e w' =>
      e = .returned (.tuple #[]) ∧ w.grownBy w' (some P.bn) ∧ NdRow w' P.bn P.nc (noiTo P.H (ns.map (refNd tick)) (P.ls.filter (ngSel tick [3]))) := by
  refine (callsIn_wide (n := 9)).1 ?_
  refine callsIn_of_wp_marks Try.func31 rfl trivial ?_ rfl
  simp only [Try.ntmps31, List.size_toArray, List.length_cons, List.length_nil, Nat.reduceAdd, Nat.reduceSub, Array.replicate_succ, Array.replicate_zero, List.push_toArray, List.append_toArray, List.nil_append, List.cons_append]
  refine wpIn_wide.2 ?_
  have hsz := hP.bl
  have hpl := blk_lt' hP.hp
  have hpn := hP.pn
  have hbb := hP.bb
  have hnb := hP.nb
  have h3 : w.cell? ⟨P.p, 3, none⟩ = some (.slice P.Al P.ls.length P.lc) := (blk_cell' hP.hp 3).trans rfl
  have h4 : w.cell? ⟨P.p, 4, none⟩ = some (.slice P.An ns.length P.nc) := (blk_cell' hP.hp 4).trans rfl
  have h1 : w.cell? ⟨P.p, 1, none⟩ = some (.int .i64 P.H) := (blk_cell' hP.hp 1).trans rfl
  go_wp2
  obtain ⟨w0, hw0⟩ : ∃ w0, w.alloc (.cells #[.pointer (some ⟨P.p, 0, none⟩)] 50) = w0 := ⟨_, rfl⟩
  have hB0 : Below w.heap.size w w0 := by rw [← hw0]; exact (Below.refl _ w).alloc (Nat.le_refl _) _
  have kp : w0.heap[w.heap.size]? = some (.cells #[.pointer (some ⟨P.p, 0, none⟩)] 50 (0, 0)) := by rw [← hw0]; exact World.alloc_heap_new w _
  have hs0 : w0.heap.size = w.heap.size + 1 := by rw [← hw0]; simp
  rw [hw0]
  clear hw0
  go_loopw [14] (fun i wr => ∃ k : Nat, k ≤ ns.length ∧ i = .int .i64 k ∧ NdRow wr P.bn P.nc (mapTo (refNd tick) ns k) ∧ Bel w0.heap.size P.bn w0 wr) (fun i _ => ns.length - (intOf i).toNat)
  case atStart => exact ⟨0, Nat.zero_le _, rfl, by rw [mapTo_zero]; exact hP.hn.kept (fun hlt => hB0.block _ hlt), Bel.refl _ _ _⟩
  case round =>
    obtain ⟨k, hk, rfl, hr, hb⟩ := hrel
    have q0 : wr.cell? ⟨w.heap.size, 0, none⟩ = some (.pointer (some ⟨P.p, 0, none⟩)) := (hb.at_ (by omega) (by omega)).trans (blk_cell' kp 0)
    have q4 : wr.cell? ⟨P.p, 4, none⟩ = some (.slice P.An ns.length P.nc) := (hb.at_ (by omega) hpn).trans ((below_at hB0 hpl).trans h4)
    have q1 : wr.cell? ⟨P.p, 1, none⟩ = some (.int .i64 P.H) := (hb.at_ (by omega) hpn).trans ((below_at hB0 hpl).trans h1)
    by_cases hlt : k < ns.length
    · have hAn := hP.hA (by omega)
      obtain ⟨nd, hnd⟩ : ∃ nd, ns[k]? = some nd := ⟨_, List.getElem?_eq_getElem hlt⟩
      have hnd' := mapTo_get (refNd tick) ns k nd hnd
      have hN := mapTo_nine (refNd_nine tick) h9 k
      have ht := h9.get hnd
      have hB := hbd nd (List.mem_of_getElem? hnd)
      have b1 := hB.re0
      have b2 := hB.re1
      have b3 := hB.bu0
      have b4 := hB.bu1
      have b5 := hB.tok0
      have b6 := hB.tok1
      have c4 : wr.cell? ⟨P.bn, k * 17 + 4, none⟩ = some (.int .i64 nd.s.f4) := (hr.cell hN hnd' 4 (by omega)).trans rfl
      have c3 : wr.cell? ⟨P.bn, k * 17 + 3, none⟩ = some (.int .i64 nd.s.f3) := (hr.cell hN hnd' 3 (by omega)).trans rfl
      have c15 : wr.cell? ⟨P.bn, k * 17 + 15, none⟩ = some (.int .i64 nd.tok) := (hr.cell hN hnd' 15 (by omega)).trans (nd.get_tok ht)
      have hf : ∀ i, wr.frozen? ⟨P.bn, i, none⟩ = false := fun i => hr.frozen (by rw [mapTo_length]; omega) i
      rw [hAn] at q4 ⊢
      have hset := mapTo_succ (refNd tick) ns k nd hnd
      have HS := Lib.hid hset
      have HN := Lib.hid hnd'
      clear hset hnd hnd' h3 h4 h1
      by_cases hc : 0 < tick ∧ tick % nd.s.f4 = 0
      · obtain ⟨hc1, hc2⟩ := hc
        have hc2' : (tick % nd.s.f4 == 0) = true := by simpa using hc2
        have hrf : refNd tick nd = { nd with tok := min (nd.tok + 1) nd.s.f3 } := by unfold refNd; rw [if_pos ⟨hc1, hc2⟩]
        have HR := Lib.hid hrf
        clear hrf hc2
        have hmin : min (nd.tok + 1) nd.s.f3 = if nd.s.f3 < nd.tok + 1 then nd.s.f3 else nd.tok + 1 := by omega
        have HM := Lib.hid hmin
        clear hmin
        go_wp2
        refine wp_calm ?_
        refine start_ (n := 15) (S := fun w' => w'.cell? ⟨P.bn, k * 17 + 15, none⟩ = some (.int .i64 nd.tok) ∧ w'.cell? ⟨P.bn, k * 17 + 3, none⟩ = some (.int .i64 nd.s.f3)) (ds := [14]) #[false, false, false, false, false, false, false, false, false, false, false, false, false, false, false] (by kernel_rfl) rfl rfl ⟨c15, c3⟩ (fun hHeld => ?_)
        refine pure_ (i := 0) (N := some 35) (v := ?_) (a' := ?_) #[true, false, false, false, false, false, false, false, false, false, false, false, false, false, false] rfl rfl (by kernel_rfl) (fun _ _ _ h => h) (Or.inl ⟨by rfl, ?_⟩) ?_ ?_
        rotate_left
        · intro w'
          go_simp
          with_reducible rfl
        rotate_left
        · simp only [Act.put, List.setIfInBounds_toArray, List.set_cons_zero, List.set_cons_succ, i64_w, i32_w]
          rfl
        refine pure_ (i := 1) (N := some 36) (v := ?_) (a' := ?_) #[true, true, false, false, false, false, false, false, false, false, false, false, false, false, false] rfl rfl (by kernel_rfl) (fun _ _ _ h => h) (Or.inl ⟨by rfl, ?_⟩) ?_ ?_
        rotate_left
        · intro w'
          go_simp
          with_reducible rfl
        rotate_left
        · simp only [Act.put, List.setIfInBounds_toArray, List.set_cons_zero, List.set_cons_succ, i64_w, i32_w]
          rfl
        refine pure_ (i := 2) (N := some 37) (v := ?_) (a' := ?_) #[true, true, true, false, false, false, false, false, false, false, false, false, false, false, false] rfl rfl (by kernel_rfl) (fun _ _ _ h => h) (Or.inl ⟨by rfl, ?_⟩) ?_ ?_
        rotate_left
        · intro w'
          go_simp
          with_reducible rfl
        rotate_left
        · simp only [Act.put, List.setIfInBounds_toArray, List.set_cons_zero, List.set_cons_succ, i64_w, i32_w]
          rfl
        refine pure_ (i := 3) (N := some 38) (v := ?_) (a' := ?_) #[true, true, true, true, false, false, false, false, false, false, false, false, false, false, false] rfl rfl (by kernel_rfl) (fun _ _ _ h => h) (Or.inl ⟨by rfl, ?_⟩) ?_ ?_
        rotate_left
        · intro w'
          go_simp
          with_reducible rfl
        rotate_left
        · simp only [Act.put, List.setIfInBounds_toArray, List.set_cons_zero, List.set_cons_succ, i64_w, i32_w]
          rfl
        refine pure_ (i := 6) (N := some 41) (v := ?_) (a' := ?_) #[true, true, true, true, false, false, true, false, false, false, false, false, false, false, false] rfl rfl (by kernel_rfl) (fun _ _ _ h => h) (Or.inl ⟨by rfl, ?_⟩) ?_ ?_
        rotate_left
        · intro w'
          go_simp
          with_reducible rfl
        rotate_left
        · simp only [Act.put, List.setIfInBounds_toArray, List.set_cons_zero, List.set_cons_succ, i64_w, i32_w]
          rfl
        refine pure_ (i := 7) (N := some 42) (v := ?_) (a' := ?_) #[true, true, true, true, false, false, true, true, false, false, false, false, false, false, false] rfl rfl (by kernel_rfl) (fun _ _ _ h => h) (Or.inl ⟨by rfl, ?_⟩) ?_ ?_
        rotate_left
        · intro w'
          go_simp
          with_reducible rfl
        rotate_left
        · simp only [Act.put, List.setIfInBounds_toArray, List.set_cons_zero, List.set_cons_succ, i64_w, i32_w]
          rfl
        refine pure_ (i := 8) (N := some 43) (v := ?_) (a' := ?_) #[true, true, true, true, false, false, true, true, true, false, false, false, false, false, false] rfl rfl (by kernel_rfl) (fun _ _ _ h => h) (Or.inl ⟨by rfl, ?_⟩) ?_ ?_
        rotate_left
        · intro w'
          go_simp
          with_reducible rfl
        rotate_left
        · simp only [Act.put, List.setIfInBounds_toArray, List.set_cons_zero, List.set_cons_succ, i64_w, i32_w]
          rfl
        refine pure_ (i := 9) (N := some 44) (v := ?_) (a' := ?_) #[true, true, true, true, false, false, true, true, true, true, false, false, false, false, false] rfl rfl (by kernel_rfl) (fun _ _ _ h => h) (Or.inl ⟨by rfl, ?_⟩) ?_ ?_
        rotate_left
        · intro w'
          go_simp
          with_reducible rfl
        rotate_left
        · simp only [Act.put, List.setIfInBounds_toArray, List.set_cons_zero, List.set_cons_succ, i64_w, i32_w]
          rfl
        refine take_ (i := 4) (N := some 39) (v := ?_) (a' := ?_) #[true, true, true, true, true, false, true, true, true, true, false, false, false, false, false] rfl rfl (by kernel_rfl) (fun _ _ _ h => h) (Or.inl ⟨by rfl, ?_⟩) hHeld ?_ ?_
        rotate_left
        · rintro w' ⟨s0, s1⟩
          go_simp
          with_reducible rfl
        rotate_left
        · simp only [Act.put, List.setIfInBounds_toArray, List.set_cons_zero, List.set_cons_succ, i64_w, i32_w]
          rfl
        refine pure_ (i := 5) (N := some 40) (v := ?_) (a' := ?_) #[true, true, true, true, true, true, true, true, true, true, false, false, false, false, false] rfl rfl (by kernel_rfl) (fun _ _ _ h => h) (Or.inl ⟨by rfl, ?_⟩) ?_ ?_
        rotate_left
        · intro w'
          go_simp
          with_reducible rfl
        rotate_left
        · simp only [Act.put, List.setIfInBounds_toArray, List.set_cons_zero, List.set_cons_succ, i64_w, i32_w]
          rfl
        refine take_ (i := 10) (N := some 45) (v := ?_) (a' := ?_) #[true, true, true, true, true, true, true, true, true, true, true, false, false, false, false] rfl rfl (by kernel_rfl) (fun _ _ _ h => h) (Or.inl ⟨by rfl, ?_⟩) hHeld ?_ ?_
        rotate_left
        · rintro w' ⟨s0, s1⟩
          go_simp
          with_reducible rfl
        rotate_left
        · simp only [Act.put, List.setIfInBounds_toArray, List.set_cons_zero, List.set_cons_succ, i64_w, i32_w]
          rfl
        refine pure_ (i := 11) (N := some 46) (v := ?_) (a' := ?_) #[true, true, true, true, true, true, true, true, true, true, true, true, false, false, false] rfl rfl (by kernel_rfl) (fun _ _ _ h => h) (Or.inl ⟨by rfl, ?_⟩) ?_ ?_
        rotate_left
        · intro w'
          go_simp
          with_reducible rfl
        rotate_left
        · simp only [Act.put, List.setIfInBounds_toArray, List.set_cons_zero, List.set_cons_succ, i64_w, i32_w]
          rfl
        refine pure_ (i := 12) (N := some 47) (v := ?_) (a' := ?_) #[true, true, true, true, true, true, true, true, true, true, true, true, true, false, false] rfl rfl (by kernel_rfl) (fun _ _ _ h => h) (Or.inl ⟨by rfl, ?_⟩) ?_ ?_
        rotate_left
        · intro w'
          go_simp
          with_reducible rfl
        rotate_left
        · simp only [Act.put, List.setIfInBounds_toArray, List.set_cons_zero, List.set_cons_succ, i64_w, i32_w]
          rfl
        refine pure_ (i := 13) (N := some 48) (v := ?_) (a' := ?_) #[true, true, true, true, true, true, true, true, true, true, true, true, true, true, false] rfl rfl (by kernel_rfl) (fun _ _ _ h => h) (Or.inl ⟨by rfl, ?_⟩) ?_ ?_
        rotate_left
        · intro w'
          go_simp
          with_reducible rfl
        rotate_left
        · simp only [Act.put, List.setIfInBounds_toArray, List.set_cons_zero, List.set_cons_succ, i64_w, i32_w]
          rfl
        refine last_ (i := 14) (N := none) #[true, true, true, true, true, true, true, true, true, true, true, true, true, true, true] rfl rfl (by kernel_rfl) (by decide) (fun K hK => ?_)
        refine skip_ (w1 := ?_) (by rfl) rfl ?_ ?_
        rotate_left
        · go_simp
          rfl
        refine hK.out _ _ ?_
        clear hK K
        refine done_ (by kernel_rfl) ?_
        refine calm_normal ?_
        go_wp2
        have hst := hr.store hN { nd with tok := min (nd.tok + 1) nd.s.f3 } HN.out 15 (by omega) (.int .i64 (min (nd.tok + 1) nd.s.f3)) (nd.cells_tok ht _)
        rw [← HR.out, HS.out, HM.out] at hst
        have hwr : wrap64 (nd.tok + 1) = nd.tok + 1 := by unfold wrap64; omega
        rw [hwr]
        exact ⟨⟨k + 1, by omega, by simp, hst.1.drew, (hb.set (p := ⟨P.bn, k * 17 + 15, none⟩) (.inl rfl) _).drew⟩, by simp [intOf]; omega⟩
      · by_cases hc1 : 0 < tick
        · have hc2' : (tick % nd.s.f4 == 0) = false := by simpa using fun h => hc ⟨hc1, h⟩
          have hrf : refNd tick nd = nd := by unfold refNd; rw [if_neg hc]
          have HR := Lib.hid hrf
          clear hrf hc
          go_wp2
          have hset := HS.out
          rw [HR.out, set_same HN.out] at hset
          rw [hset] at hr
          exact ⟨⟨k + 1, by omega, by simp, hr, hb⟩, by simp [intOf]; omega⟩
        · have ht' : tick = 0 := by omega
          have hrf : refNd tick nd = nd := by unfold refNd; rw [if_neg hc]
          have HR := Lib.hid hrf
          subst ht'
          clear hrf hc hc1
          go_wp2
          have hset := HS.out
          rw [HR.out, set_same HN.out] at hset
          rw [hset] at hr
          exact ⟨⟨k + 1, by omega, by simp, hr, hb⟩, by simp [intOf]; omega⟩
    · obtain rfl : k = ns.length := by omega
      rw [mapTo_all] at hr
      clear h4 h1
      go_wp2_with (go_at_call 39; refine (at_any P.p tick _ _ _ _).mono ?_; rintro e w' ⟨rfl, rfl⟩)
      rename_i Q2 K2 hK2 Q1
      obtain ⟨w1, hw1⟩ : ∃ w1, ((((wr.alloc (.cells #[.int .i64 3] 3)).alloc (.cells #[.pointer (some ⟨P.p, 0, none⟩)] 50)).alloc (.cells #[.int .i64 tick] 3)).alloc (.cells #[.slice (some ⟨wr.heap.size, 0, none⟩) 1 1] 34)) = w1 := ⟨_, rfl⟩
      obtain ⟨hs1, k1, k2, k3, k4, hB1⟩ := alloc4 wr w1 _ _ _ _ hw1
      rw [hw1]
      clear hw1
      have hsz0 := hb.size
      have hrow1 : NdRow w1 P.bn P.nc (ns.map (refNd tick)) := hr.kept (fun hlt => hB1.block _ hlt)
      have hin : AtIn w1 w1.heap.size P.bn (wr.heap.size + 1) (wr.heap.size + 2) (wr.heap.size + 3) P.p wr.heap.size 1 [3] tick P.Al P.b P.off P.lc P.ls :=
        { ks1 := by simp
          ls1 := hP.l1
          hA := hP.hL
          ne := ⟨by omega, by omega, by omega, hpn, by omega, hnb⟩
          lt := ⟨by omega, by omega, by omega, by omega, by omega, fun _ => by omega⟩
          sz := Nat.le_refl _
          c1 := (blk_cell' k2 0).trans rfl
          c2 := (blk_cell' k3 0).trans rfl
          c3 := (blk_cell' k4 0).trans rfl
          c4 := (below_at hB1 (by omega)).trans ((hb.at_ (by omega) hpn).trans ((below_at hB0 hpl).trans h3))
          c5 := fun j hj => by
            rw [blk_cell' k1 j]
            simp at hj
            subst hj
            rfl
          c6 := hP.hc.keep (fun o => (below_at hB1 (by omega)).trans ((hb.at_ (by omega) hnb).trans (below_at hB0 hbb))) }
      refine (wpIn_wide (n := 9)).1 ?_
      refine wpIn_rangeFunc_ownH rfl (by omega) (gf := 44) (lb := #[.pointer (some ⟨wr.heap.size + 1, 0, none⟩), .pointer (some ⟨wr.heap.size + 2, 0, none⟩), .pointer (some ⟨wr.heap.size + 3, 0, none⟩)]) rfl trivial (enters_of Try.func44 (by kernel_rfl) rfl)
        (at_stops (NoiOk ns.length) 8 (by omega) hin hV) Bel.trans (bel_put (Nat.le_refl _)) (Below.refl _ _) (fun _ => rfl)
        (fun pre W => NdRow W P.bn P.nc (noiTo P.H (ns.map (refNd tick)) (pre.map (·.1))) ∧ Bel w1.heap.size P.bn w1 W) (fun _ _ _ => False)
        (OwnFrom.and (own_row _ (by omega)) (own_bel (Nat.le_refl _) (Nat.le_refl _))) (fun _ _ _ _ _ hs _ _ => hs)
        ⟨hrow1, Bel.refl _ _ _⟩
        (fun x a' W => ∃ Bx, w1.heap.size ≤ Bx ∧ W.heap[Bx]? = some (.cells #[.int .i64 x.1.at_, .int .i64 x.1.kind, .int .i64 x.1.node, .int .i64 x.1.arg] 33 (0, 0)) ∧ a' = { tmps := #[.pointer (some ⟨P.p, 0, none⟩), .int .i64 tick, .pointer (some ⟨w.heap.size, 0, none⟩), undef, u4, u5, .pointer (some ⟨Bx, 0, none⟩), undef, undef, .pointer (some ⟨P.p, 0, none⟩), .pointer (some ⟨P.p, 0, none⟩), .pointer (some ⟨P.p, 4, none⟩), .slice P.An ns.length P.nc, .int .i64 ns.length, .int .i64 ns.length, .bool false, u16, u17, u18, u19, u20, u21, u22, u23, u24, u25, u26, u27, u28, u29, u30, u31, u32, u33, u34, u35, u36, u37, u38, u39, u40, u41, u42, u43, u44, u45, u46, u47, u48, u49, .pointer (some ⟨P.p, 0, none⟩), .int .i64 tick, .slice (some ⟨wr.heap.size, 0, none⟩) 1 1, .func (.func 44) #[] #[.pointer (some ⟨wr.heap.size + 1, 0, none⟩), .pointer (some ⟨wr.heap.size + 1 + 1, 0, none⟩), .pointer (some ⟨wr.heap.size + 1 + 2, 0, none⟩)], .agg #[.int .i64 x.1.at_, .int .i64 x.1.kind, .int .i64 x.1.node, .int .i64 x.1.arg], undef, undef, undef, undef, undef, undef, undef, undef, undef, undef, undef, undef, undef, undef, undef, undef, undef, undef, undef, undef, undef, undef, undef, undef, undef, undef, undef, undef, undef, undef, undef, undef, undef, undef, undef, undef, undef, undef, undef, undef, undef, undef, undef], defers := [] })
        ?own ?assign ?body ?done ?stop
      case own =>
        rintro x a' s A B row ⟨Bx, b1, b2, b3⟩ hg hr
        exact ⟨Bx, b1, (hg.block Bx (blk_lt' b2) (fun e => by obtain ⟨_, o, ho, hc⟩ := hr Bx e.symm; rw [b2] at ho; cases ho; cases hc)).trans b2, b3⟩
      case assign =>
        rintro l pre x W K ⟨hr, hb⟩ hK
        have hk := hK { tmps := #[.pointer (some ⟨P.p, 0, none⟩), .int .i64 tick, .pointer (some ⟨w.heap.size, 0, none⟩), undef, u4, u5, .pointer (some ⟨W.heap.size, 0, none⟩), undef, undef, .pointer (some ⟨P.p, 0, none⟩), .pointer (some ⟨P.p, 0, none⟩), .pointer (some ⟨P.p, 4, none⟩), .slice P.An ns.length P.nc, .int .i64 ns.length, .int .i64 ns.length, .bool false, u16, u17, u18, u19, u20, u21, u22, u23, u24, u25, u26, u27, u28, u29, u30, u31, u32, u33, u34, u35, u36, u37, u38, u39, u40, u41, u42, u43, u44, u45, u46, u47, u48, u49, .pointer (some ⟨P.p, 0, none⟩), .int .i64 tick, .slice (some ⟨wr.heap.size, 0, none⟩) 1 1, .func (.func 44) #[] #[.pointer (some ⟨wr.heap.size + 1, 0, none⟩), .pointer (some ⟨wr.heap.size + 1 + 1, 0, none⟩), .pointer (some ⟨wr.heap.size + 1 + 2, 0, none⟩)], .agg #[.int .i64 x.1.at_, .int .i64 x.1.kind, .int .i64 x.1.node, .int .i64 x.1.arg], undef, undef, undef, undef, undef, undef, undef, undef, undef, undef, undef, undef, undef, undef, undef, undef, undef, undef, undef, undef, undef, undef, undef, undef, undef, undef, undef, undef, undef, undef, undef, undef, undef, undef, undef, undef, undef, undef, undef, undef, undef, undef, undef], defers := [] } (W.alloc (.cells #[.int .i64 x.1.at_, .int .i64 x.1.kind, .int .i64 x.1.node, .int .i64 x.1.arg] 33)) ((KeepsOthers.alloc _ _).from _) ((Bel.refl _ _ W).alloc hb.size _)
          ⟨hr.kept (fun hlt => Below.heap_alloc _ _ _ hlt), hb.alloc hb.size _⟩ ⟨W.heap.size, hb.size, World.alloc_heap_new W _, rfl⟩
        clear hK
        dsimp only [Ng.enc]
        gi_wp2
        exact hk
      case body =>
        rintro l pre x a' W hl ⟨r, hrec⟩ ⟨hrow, hbel⟩ ⟨Bx, hBx, bX, rfl⟩ hlt
        obtain ⟨⟨xa, xk, xn, xg⟩, hx1, hx2⟩ := x
        dsimp only at hx1 hx2 bX ⊢
        obtain ⟨k, rfl⟩ := Int.eq_ofNat_of_zero_le hx1
        have hmx : Try.prog.follows .mixedOrders = true := by kernel_rfl
        have hAn := hP.hA (by omega)
        rw [hAn] at q4 ⊢
        have hN := noiTo_nine P.H (map_nine (refNd_nine tick) h9) (pre.map (·.1))
        have hL := noiTo_length P.H (ns.map (refNd tick)) (pre.map (·.1))
        rw [List.length_map] at hL
        obtain ⟨nd, hnd⟩ : ∃ nd, (noiTo P.H (ns.map (refNd tick)) (pre.map (·.1)))[k]? = some nd := ⟨_, List.getElem?_eq_getElem (by omega)⟩
        have ht := hN.get hnd
        have p0 : W.cell? ⟨w.heap.size, 0, none⟩ = some (.pointer (some ⟨P.p, 0, none⟩)) := (hbel.at_ (by omega) (by omega)).trans ((below_at hB1 (by omega)).trans q0)
        have p4 : W.cell? ⟨P.p, 4, none⟩ = some (.slice (some ⟨P.bn, 0, none⟩) ns.length P.nc) := (hbel.at_ (by omega) hpn).trans ((below_at hB1 (by omega)).trans q4)
        have p1 : W.cell? ⟨P.p, 1, none⟩ = some (.int .i64 P.H) := (hbel.at_ (by omega) hpn).trans ((below_at hB1 (by omega)).trans q1)
        have p2 : W.cell? ⟨Bx, 2, none⟩ = some (.int .i64 k) := (blk_cell' bX 2).trans rfl
        have c16 : W.cell? ⟨P.bn, k * 17 + 16, none⟩ = some (.bool nd.aw) := (hrow.cell hN hnd 16 (by omega)).trans (nd.get_aw ht)
        have c15 : W.cell? ⟨P.bn, k * 17 + 15, none⟩ = some (.int .i64 nd.tok) := (hrow.cell hN hnd 15 (by omega)).trans (nd.get_tok ht)
        have c14 : W.cell? ⟨P.bn, k * 17 + 6 + 8, none⟩ = some (.int .i64 (nd.tm.getD 8 0)) := by
          rw [show k * 17 + 6 + 8 = k * 17 + (6 + 8) from by omega]
          exact (hrow.cell hN hnd (6 + 8) (by omega)).trans (nd.get_tm ht 8 (by omega))
        have hf : ∀ i, W.frozen? ⟨P.bn, i, none⟩ = false := fun i => hrow.frozen (by omega) i
        have htk := (noiTo_b P.H (map_b (fun x => refNd_b tick) hbd) (pre.map (·.1)) nd (List.mem_of_getElem? hnd)).tok1
        obtain ⟨t8, ht8⟩ : ∃ t8, nd.tm.getD 8 0 = t8 := ⟨_, rfl⟩
        rw [ht8] at c14
        have HT8 := Lib.hid ht8
        have HND := Lib.hid hnd
        have HS1 := Lib.hid hs1
        have HL := Lib.hid hL
        clear ht8 hnd q0 q1 q4 k1 k2 k3 k4 kp h3 hs1 hL
        cases haw : nd.aw
        · rw [haw] at c16
          have Haw := Lib.hid haw
          clear haw
          by_cases h0 : 0 < nd.tok
          · by_cases h8 : t8 = 0
            · subst h8
              gi_wp2
              refine startR_ (n := 8) (S := fun w' => w'.cell? ⟨w.heap.size, 0, none⟩ = some (.pointer (some ⟨P.p, 0, none⟩)) ∧ w'.cell? ⟨P.p, 4, none⟩ = some (.slice (some ⟨P.bn, 0, none⟩) ns.length P.nc) ∧ w'.cell? ⟨Bx, 2, none⟩ = some (.int .i64 k)) (ds := []) #[false, false, false, false, false, false, false, false] (by kernel_rfl) rfl rfl (by kernel_rfl) (by rintro ⟨_, _, h⟩; exact h) ⟨p0, p4, p2⟩ (fun hHeld => ?_)
              refine pure_ (i := 4) (N := some 59) (v := ?_) (a' := ?_) #[false, false, false, false, true, false, false, false] rfl rfl (by kernel_rfl) (fun _ _ _ h => h) (Or.inl ⟨by rfl, ?_⟩) ?_ ?_
              rotate_left
              · intro w'
                go_simp
                with_reducible rfl
              rotate_left
              · simp only [Act.put, List.setIfInBounds_toArray, List.set_cons_zero, List.set_cons_succ, i64_w, i32_w]
                rfl
              refine take_ (i := 0) (N := some 55) (v := ?_) (a' := ?_) #[true, false, false, false, true, false, false, false] rfl rfl (by kernel_rfl) (fun _ _ _ h => h) (Or.inl ⟨by rfl, ?_⟩) hHeld ?_ ?_
              rotate_left
              · rintro w' ⟨s0, s1, s2⟩
                go_simp
                with_reducible rfl
              rotate_left
              · simp only [Act.put, List.setIfInBounds_toArray, List.set_cons_zero, List.set_cons_succ, i64_w, i32_w]
                rfl
              refine pure_ (i := 1) (N := some 56) (v := ?_) (a' := ?_) #[true, true, false, false, true, false, false, false] rfl rfl (by kernel_rfl) (fun _ _ _ h => h) (Or.inl ⟨by rfl, ?_⟩) ?_ ?_
              rotate_left
              · intro w'
                go_simp
                with_reducible rfl
              rotate_left
              · simp only [Act.put, List.setIfInBounds_toArray, List.set_cons_zero, List.set_cons_succ, i64_w, i32_w]
                rfl
              refine pure_ (i := 2) (N := some 57) (v := ?_) (a' := ?_) #[true, true, true, false, true, false, false, false] rfl rfl (by kernel_rfl) (fun _ _ _ h => h) (Or.inl ⟨by rfl, ?_⟩) ?_ ?_
              rotate_left
              · intro w'
                go_simp
                with_reducible rfl
              rotate_left
              · simp only [Act.put, List.setIfInBounds_toArray, List.set_cons_zero, List.set_cons_succ, i64_w, i32_w]
                rfl
              refine take_ (i := 3) (N := some 58) (v := ?_) (a' := ?_) #[true, true, true, true, true, false, false, false] rfl rfl (by kernel_rfl) (fun _ _ _ h => h) (Or.inl ⟨by rfl, ?_⟩) hHeld ?_ ?_
              rotate_left
              · rintro w' ⟨s0, s1, s2⟩
                go_simp
                with_reducible rfl
              rotate_left
              · simp only [Act.put, List.setIfInBounds_toArray, List.set_cons_zero, List.set_cons_succ, i64_w, i32_w]
                rfl
              refine take_ (i := 5) (N := some 60) (v := ?_) (a' := ?_) #[true, true, true, true, true, true, false, false] rfl rfl (by kernel_rfl) (fun _ _ _ h => h) (Or.inl ⟨by rfl, ?_⟩) hHeld ?_ ?_
              rotate_left
              · rintro w' ⟨s0, s1, s2⟩
                go_simp
                with_reducible rfl
              rotate_left
              · simp only [Act.put, List.setIfInBounds_toArray, List.set_cons_zero, List.set_cons_succ, i64_w, i32_w]
                rfl
              refine pure_ (i := 6) (N := some 61) (v := ?_) (a' := ?_) #[true, true, true, true, true, true, true, false] rfl rfl (by kernel_rfl) (fun _ _ _ h => h) (Or.inl ⟨by rfl, ?_⟩) ?_ ?_
              rotate_left
              · intro w'
                go_simp
                with_reducible rfl
              rotate_left
              · simp only [Act.put, List.setIfInBounds_toArray, List.set_cons_zero, List.set_cons_succ, i64_w, i32_w]
                rfl
              refine pure_ (i := 7) (N := some 7) (v := ?_) (a' := ?_) #[true, true, true, true, true, true, true, true] rfl rfl (by kernel_rfl) (fun _ _ _ h => h) (Or.inl ⟨by rfl, ?_⟩) ?_ ?_
              rotate_left
              · intro w'
                go_simp
                with_reducible rfl
              rotate_left
              · simp only [Act.put, List.setIfInBounds_toArray, List.set_cons_zero, List.set_cons_succ, i64_w, i32_w]
                rfl
              refine done_ (by kernel_rfl) ?_
              gi_wp2
              have hst1 := hrow.store hN { nd with tok := nd.tok - 1 } HND.out 15 (by omega) (.int .i64 (nd.tok - 1)) (nd.cells_tok ht _)
              have hN2 := hN.set k (x := { nd with tok := nd.tok - 1 }) (by exact ht)
              have hx2 : ((noiTo P.H (ns.map (refNd tick)) (pre.map (·.1))).set k { nd with tok := nd.tok - 1 })[k]? = some { nd with tok := nd.tok - 1 } := List.getElem?_set_self (by rw [HL.out]; omega)
              have hst2 := hst1.1.store hN2 { nd with tok := nd.tok - 1, tm := nd.tm.set 8 P.H } hx2 (6 + 8) (by omega) (.int .i64 P.H) (Nd.cells_tm { nd with tok := nd.tok - 1 } ht 8 (by omega) P.H)
              have hno : noiNd P.H nd = { nd with tok := nd.tok - 1, tm := nd.tm.set 8 P.H } := by unfold noiNd; rw [if_pos ⟨Haw.out, h0, HT8.out⟩]
              rw [List.set_set, ← hno, noiStep_at P.H _ nd k xa xk xg HND.out, ← noiTo_snoc] at hst2
              have hb2 := (((Bel.refl w1.heap.size P.bn W).set (p := ⟨P.bn, k * 17 + 15, none⟩) (.inl rfl) (.int .i64 (nd.tok - 1))).set (p := ⟨P.bn, k * 17 + 6 + 8, none⟩) (.inl rfl) (.int .i64 P.H)).drew
              exact ⟨((KeepsOthers.setCell W ⟨P.bn, k * 17 + 15, none⟩ _).trans ((KeepsOthers.setCell _ ⟨P.bn, k * 17 + 6 + 8, none⟩ _).trans (KeepsOthers.drew _))).from _, hb2, by rw [List.map_append]; exact hst2.1.drew, hbel.trans hb2⟩
            · have h8' : (t8 == 0) = false := by simpa using h8
              have H8 := Lib.hid h8
              clear h8
              gi_wp2
              refine startR_ (n := 8) (S := fun w' => w'.cell? ⟨w.heap.size, 0, none⟩ = some (.pointer (some ⟨P.p, 0, none⟩)) ∧ w'.cell? ⟨P.p, 4, none⟩ = some (.slice (some ⟨P.bn, 0, none⟩) ns.length P.nc) ∧ w'.cell? ⟨Bx, 2, none⟩ = some (.int .i64 k)) (ds := []) #[false, false, false, false, false, false, false, false] (by kernel_rfl) rfl rfl (by kernel_rfl) (by rintro ⟨_, _, h⟩; exact h) ⟨p0, p4, p2⟩ (fun hHeld => ?_)
              refine pure_ (i := 4) (N := some 59) (v := ?_) (a' := ?_) #[false, false, false, false, true, false, false, false] rfl rfl (by kernel_rfl) (fun _ _ _ h => h) (Or.inl ⟨by rfl, ?_⟩) ?_ ?_
              rotate_left
              · intro w'
                go_simp
                with_reducible rfl
              rotate_left
              · simp only [Act.put, List.setIfInBounds_toArray, List.set_cons_zero, List.set_cons_succ, i64_w, i32_w]
                rfl
              refine take_ (i := 0) (N := some 55) (v := ?_) (a' := ?_) #[true, false, false, false, true, false, false, false] rfl rfl (by kernel_rfl) (fun _ _ _ h => h) (Or.inl ⟨by rfl, ?_⟩) hHeld ?_ ?_
              rotate_left
              · rintro w' ⟨s0, s1, s2⟩
                go_simp
                with_reducible rfl
              rotate_left
              · simp only [Act.put, List.setIfInBounds_toArray, List.set_cons_zero, List.set_cons_succ, i64_w, i32_w]
                rfl
              refine pure_ (i := 1) (N := some 56) (v := ?_) (a' := ?_) #[true, true, false, false, true, false, false, false] rfl rfl (by kernel_rfl) (fun _ _ _ h => h) (Or.inl ⟨by rfl, ?_⟩) ?_ ?_
              rotate_left
              · intro w'
                go_simp
                with_reducible rfl
              rotate_left
              · simp only [Act.put, List.setIfInBounds_toArray, List.set_cons_zero, List.set_cons_succ, i64_w, i32_w]
                rfl
              refine pure_ (i := 2) (N := some 57) (v := ?_) (a' := ?_) #[true, true, true, false, true, false, false, false] rfl rfl (by kernel_rfl) (fun _ _ _ h => h) (Or.inl ⟨by rfl, ?_⟩) ?_ ?_
              rotate_left
              · intro w'
                go_simp
                with_reducible rfl
              rotate_left
              · simp only [Act.put, List.setIfInBounds_toArray, List.set_cons_zero, List.set_cons_succ, i64_w, i32_w]
                rfl
              refine take_ (i := 3) (N := some 58) (v := ?_) (a' := ?_) #[true, true, true, true, true, false, false, false] rfl rfl (by kernel_rfl) (fun _ _ _ h => h) (Or.inl ⟨by rfl, ?_⟩) hHeld ?_ ?_
              rotate_left
              · rintro w' ⟨s0, s1, s2⟩
                go_simp
                with_reducible rfl
              rotate_left
              · simp only [Act.put, List.setIfInBounds_toArray, List.set_cons_zero, List.set_cons_succ, i64_w, i32_w]
                rfl
              refine take_ (i := 5) (N := some 60) (v := ?_) (a' := ?_) #[true, true, true, true, true, true, false, false] rfl rfl (by kernel_rfl) (fun _ _ _ h => h) (Or.inl ⟨by rfl, ?_⟩) hHeld ?_ ?_
              rotate_left
              · rintro w' ⟨s0, s1, s2⟩
                go_simp
                with_reducible rfl
              rotate_left
              · simp only [Act.put, List.setIfInBounds_toArray, List.set_cons_zero, List.set_cons_succ, i64_w, i32_w]
                rfl
              refine pure_ (i := 6) (N := some 61) (v := ?_) (a' := ?_) #[true, true, true, true, true, true, true, false] rfl rfl (by kernel_rfl) (fun _ _ _ h => h) (Or.inl ⟨by rfl, ?_⟩) ?_ ?_
              rotate_left
              · intro w'
                go_simp
                with_reducible rfl
              rotate_left
              · simp only [Act.put, List.setIfInBounds_toArray, List.set_cons_zero, List.set_cons_succ, i64_w, i32_w]
                rfl
              refine pure_ (i := 7) (N := some 7) (v := ?_) (a' := ?_) #[true, true, true, true, true, true, true, true] rfl rfl (by kernel_rfl) (fun _ _ _ h => h) (Or.inl ⟨by rfl, ?_⟩) ?_ ?_
              rotate_left
              · intro w'
                go_simp
                with_reducible rfl
              rotate_left
              · simp only [Act.put, List.setIfInBounds_toArray, List.set_cons_zero, List.set_cons_succ, i64_w, i32_w]
                rfl
              refine done_ (by kernel_rfl) ?_
              gi_wp2
              have hsk := noiStep_same P.H _ nd k xa xk xg HND.out (by unfold noiNd; rw [if_neg (fun hc => H8.out (HT8.out ▸ hc.2.2))])
              have hrow2 := hrow
              rw [← hsk, ← noiTo_snoc] at hrow2
              exact ⟨(KeepsOthers.drew _).from _, (Bel.refl _ _ W).drew, by (try unfold List.unattach); rw [List.map_append]; exact hrow2.drew, hbel.drew⟩
          · have h0' : nd.tok ≤ 0 := by omega
            have H0 := Lib.hid h0
            clear h0
            gi_wp2
            refine startR_ (n := 8) (S := fun w' => w'.cell? ⟨w.heap.size, 0, none⟩ = some (.pointer (some ⟨P.p, 0, none⟩)) ∧ w'.cell? ⟨P.p, 4, none⟩ = some (.slice (some ⟨P.bn, 0, none⟩) ns.length P.nc) ∧ w'.cell? ⟨Bx, 2, none⟩ = some (.int .i64 k)) (ds := []) #[false, false, false, false, false, false, false, false] (by kernel_rfl) rfl rfl (by kernel_rfl) (by rintro ⟨_, _, h⟩; exact h) ⟨p0, p4, p2⟩ (fun hHeld => ?_)
            refine pure_ (i := 4) (N := some 59) (v := ?_) (a' := ?_) #[false, false, false, false, true, false, false, false] rfl rfl (by kernel_rfl) (fun _ _ _ h => h) (Or.inl ⟨by rfl, ?_⟩) ?_ ?_
            rotate_left
            · intro w'
              go_simp
              with_reducible rfl
            rotate_left
            · simp only [Act.put, List.setIfInBounds_toArray, List.set_cons_zero, List.set_cons_succ, i64_w, i32_w]
              rfl
            refine take_ (i := 0) (N := some 55) (v := ?_) (a' := ?_) #[true, false, false, false, true, false, false, false] rfl rfl (by kernel_rfl) (fun _ _ _ h => h) (Or.inl ⟨by rfl, ?_⟩) hHeld ?_ ?_
            rotate_left
            · rintro w' ⟨s0, s1, s2⟩
              go_simp
              with_reducible rfl
            rotate_left
            · simp only [Act.put, List.setIfInBounds_toArray, List.set_cons_zero, List.set_cons_succ, i64_w, i32_w]
              rfl
            refine pure_ (i := 1) (N := some 56) (v := ?_) (a' := ?_) #[true, true, false, false, true, false, false, false] rfl rfl (by kernel_rfl) (fun _ _ _ h => h) (Or.inl ⟨by rfl, ?_⟩) ?_ ?_
            rotate_left
            · intro w'
              go_simp
              with_reducible rfl
            rotate_left
            · simp only [Act.put, List.setIfInBounds_toArray, List.set_cons_zero, List.set_cons_succ, i64_w, i32_w]
              rfl
            refine pure_ (i := 2) (N := some 57) (v := ?_) (a' := ?_) #[true, true, true, false, true, false, false, false] rfl rfl (by kernel_rfl) (fun _ _ _ h => h) (Or.inl ⟨by rfl, ?_⟩) ?_ ?_
            rotate_left
            · intro w'
              go_simp
              with_reducible rfl
            rotate_left
            · simp only [Act.put, List.setIfInBounds_toArray, List.set_cons_zero, List.set_cons_succ, i64_w, i32_w]
              rfl
            refine take_ (i := 3) (N := some 58) (v := ?_) (a' := ?_) #[true, true, true, true, true, false, false, false] rfl rfl (by kernel_rfl) (fun _ _ _ h => h) (Or.inl ⟨by rfl, ?_⟩) hHeld ?_ ?_
            rotate_left
            · rintro w' ⟨s0, s1, s2⟩
              go_simp
              with_reducible rfl
            rotate_left
            · simp only [Act.put, List.setIfInBounds_toArray, List.set_cons_zero, List.set_cons_succ, i64_w, i32_w]
              rfl
            refine take_ (i := 5) (N := some 60) (v := ?_) (a' := ?_) #[true, true, true, true, true, true, false, false] rfl rfl (by kernel_rfl) (fun _ _ _ h => h) (Or.inl ⟨by rfl, ?_⟩) hHeld ?_ ?_
            rotate_left
            · rintro w' ⟨s0, s1, s2⟩
              go_simp
              with_reducible rfl
            rotate_left
            · simp only [Act.put, List.setIfInBounds_toArray, List.set_cons_zero, List.set_cons_succ, i64_w, i32_w]
              rfl
            refine pure_ (i := 6) (N := some 61) (v := ?_) (a' := ?_) #[true, true, true, true, true, true, true, false] rfl rfl (by kernel_rfl) (fun _ _ _ h => h) (Or.inl ⟨by rfl, ?_⟩) ?_ ?_
            rotate_left
            · intro w'
              go_simp
              with_reducible rfl
            rotate_left
            · simp only [Act.put, List.setIfInBounds_toArray, List.set_cons_zero, List.set_cons_succ, i64_w, i32_w]
              rfl
            refine pure_ (i := 7) (N := some 7) (v := ?_) (a' := ?_) #[true, true, true, true, true, true, true, true] rfl rfl (by kernel_rfl) (fun _ _ _ h => h) (Or.inl ⟨by rfl, ?_⟩) ?_ ?_
            rotate_left
            · intro w'
              go_simp
              with_reducible rfl
            rotate_left
            · simp only [Act.put, List.setIfInBounds_toArray, List.set_cons_zero, List.set_cons_succ, i64_w, i32_w]
              rfl
            refine done_ (by kernel_rfl) ?_
            gi_wp2
            have hsk := noiStep_same P.H _ nd k xa xk xg HND.out (by unfold noiNd; rw [if_neg (fun hc => absurd hc.2.1 (by have := H0.out; omega))])
            have hrow2 := hrow
            rw [← hsk, ← noiTo_snoc] at hrow2
            exact ⟨(KeepsOthers.drew _).from _, (Bel.refl _ _ W).drew, by (try unfold List.unattach); rw [List.map_append]; exact hrow2.drew, hbel.drew⟩
        · rw [haw] at c16
          have Haw := Lib.hid haw
          clear haw
          gi_wp2
          refine startR_ (n := 8) (S := fun w' => w'.cell? ⟨w.heap.size, 0, none⟩ = some (.pointer (some ⟨P.p, 0, none⟩)) ∧ w'.cell? ⟨P.p, 4, none⟩ = some (.slice (some ⟨P.bn, 0, none⟩) ns.length P.nc) ∧ w'.cell? ⟨Bx, 2, none⟩ = some (.int .i64 k)) (ds := []) #[false, false, false, false, false, false, false, false] (by kernel_rfl) rfl rfl (by kernel_rfl) (by rintro ⟨_, _, h⟩; exact h) ⟨p0, p4, p2⟩ (fun hHeld => ?_)
          refine pure_ (i := 4) (N := some 59) (v := ?_) (a' := ?_) #[false, false, false, false, true, false, false, false] rfl rfl (by kernel_rfl) (fun _ _ _ h => h) (Or.inl ⟨by rfl, ?_⟩) ?_ ?_
          rotate_left
          · intro w'
            go_simp
            with_reducible rfl
          rotate_left
          · simp only [Act.put, List.setIfInBounds_toArray, List.set_cons_zero, List.set_cons_succ, i64_w, i32_w]
            rfl
          refine take_ (i := 0) (N := some 55) (v := ?_) (a' := ?_) #[true, false, false, false, true, false, false, false] rfl rfl (by kernel_rfl) (fun _ _ _ h => h) (Or.inl ⟨by rfl, ?_⟩) hHeld ?_ ?_
          rotate_left
          · rintro w' ⟨s0, s1, s2⟩
            go_simp
            with_reducible rfl
          rotate_left
          · simp only [Act.put, List.setIfInBounds_toArray, List.set_cons_zero, List.set_cons_succ, i64_w, i32_w]
            rfl
          refine pure_ (i := 1) (N := some 56) (v := ?_) (a' := ?_) #[true, true, false, false, true, false, false, false] rfl rfl (by kernel_rfl) (fun _ _ _ h => h) (Or.inl ⟨by rfl, ?_⟩) ?_ ?_
          rotate_left
          · intro w'
            go_simp
            with_reducible rfl
          rotate_left
          · simp only [Act.put, List.setIfInBounds_toArray, List.set_cons_zero, List.set_cons_succ, i64_w, i32_w]
            rfl
          refine pure_ (i := 2) (N := some 57) (v := ?_) (a' := ?_) #[true, true, true, false, true, false, false, false] rfl rfl (by kernel_rfl) (fun _ _ _ h => h) (Or.inl ⟨by rfl, ?_⟩) ?_ ?_
          rotate_left
          · intro w'
            go_simp
            with_reducible rfl
          rotate_left
          · simp only [Act.put, List.setIfInBounds_toArray, List.set_cons_zero, List.set_cons_succ, i64_w, i32_w]
            rfl
          refine take_ (i := 3) (N := some 58) (v := ?_) (a' := ?_) #[true, true, true, true, true, false, false, false] rfl rfl (by kernel_rfl) (fun _ _ _ h => h) (Or.inl ⟨by rfl, ?_⟩) hHeld ?_ ?_
          rotate_left
          · rintro w' ⟨s0, s1, s2⟩
            go_simp
            with_reducible rfl
          rotate_left
          · simp only [Act.put, List.setIfInBounds_toArray, List.set_cons_zero, List.set_cons_succ, i64_w, i32_w]
            rfl
          refine take_ (i := 5) (N := some 60) (v := ?_) (a' := ?_) #[true, true, true, true, true, true, false, false] rfl rfl (by kernel_rfl) (fun _ _ _ h => h) (Or.inl ⟨by rfl, ?_⟩) hHeld ?_ ?_
          rotate_left
          · rintro w' ⟨s0, s1, s2⟩
            go_simp
            with_reducible rfl
          rotate_left
          · simp only [Act.put, List.setIfInBounds_toArray, List.set_cons_zero, List.set_cons_succ, i64_w, i32_w]
            rfl
          refine pure_ (i := 6) (N := some 61) (v := ?_) (a' := ?_) #[true, true, true, true, true, true, true, false] rfl rfl (by kernel_rfl) (fun _ _ _ h => h) (Or.inl ⟨by rfl, ?_⟩) ?_ ?_
          rotate_left
          · intro w'
            go_simp
            with_reducible rfl
          rotate_left
          · simp only [Act.put, List.setIfInBounds_toArray, List.set_cons_zero, List.set_cons_succ, i64_w, i32_w]
            rfl
          refine pure_ (i := 7) (N := some 7) (v := ?_) (a' := ?_) #[true, true, true, true, true, true, true, true] rfl rfl (by kernel_rfl) (fun _ _ _ h => h) (Or.inl ⟨by rfl, ?_⟩) ?_ ?_
          rotate_left
          · intro w'
            go_simp
            with_reducible rfl
          rotate_left
          · simp only [Act.put, List.setIfInBounds_toArray, List.set_cons_zero, List.set_cons_succ, i64_w, i32_w]
            rfl
          refine done_ (by kernel_rfl) ?_
          gi_wp2
          have hsk := noiStep_same P.H _ nd k xa xk xg HND.out (by unfold noiNd; rw [if_neg (fun hc => by rw [Haw.out] at hc; cases hc.1)])
          have hrow2 := hrow
          rw [← hsk, ← noiTo_snoc] at hrow2
          exact ⟨(KeepsOthers.drew _).from _, (Bel.refl _ _ W).drew, by (try unfold List.unattach); rw [List.map_append]; exact hrow2.drew, hbel.drew⟩
      case done =>
        rintro D xs W hD hxs ⟨hrow, hbel⟩ hK
        rw [hxs] at hrow
        have hfil : ngTo tick [3] P.ls P.ls.length = P.ls.filter (ngSel tick [3]) := by simp [ngTo]
        rw [hfil] at hrow
        have HX := Lib.hid hxs
        have HF := Lib.hid hfil
        clear hxs hfil
        refine ⟨by simp, .inl ⟨_, _, rfl, run_takeDeferred hK, ?_⟩⟩
        refine ⟨_, results_none rfl _ _ _, rfl, ?_, ?_⟩
        · have e0 : Bel w.heap.size P.bn w w0 := Bel.of_below hB0
          have e1 : Bel w.heap.size P.bn w0 wr := hb.mono (by omega)
          have e2 : Bel w.heap.size P.bn wr w1 := (Bel.of_below hB1).mono (by omega)
          have e3 : Bel w.heap.size P.bn w1 W := hbel.mono (by omega)
          exact ((((e0.trans e1).trans e2).trans e3).put (by omega) _).grown
        · exact hrow.kept (fun hlt => World.putObj_heap_other (by omega))
      case stop =>
        rintro D c pre W _ _ h _
        exact h.elim
end Go.Proofs.Ytiglkpgoakibaab
