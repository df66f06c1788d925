/- What nodes send in a tick ((*play).send): the walk. -/
import Derived.Test.YtiglkpgoakibaabSendP
import Derived.Test.YtiglkpgoakibaabRound
namespace Go.Proofs.Ytiglkpgoakibaab
open Go.RowKit Go.Shelf PTopRegrouped Go.Proofs.YtiglkpgoakibaabW.PrintWords Go.Proofs.YtiglkpgoakibaabW.PrintLast
attribute [local go_sem] Oper.semAt_some
set_option linter.unusedSimpArgs false

def lostZero : Array Value := ((List.replicate 256 false).map Value.bool).toArray
theorem size68 : (Try.prog.info? 68).map (·.size) = some 17 := by kernel_rfl
theorem zero87 (w : World) : (zeroValue 87).run Try.prog w = .ok (.agg lostZero) w := by kernel_rfl

set_option maxRecDepth 100000 in
set_option maxHeartbeats 1000000 in
theorem send_any (P : Pl) (G : Nat) (hG : P.G = G) (hG8 : G ≤ 8) (tick : Int) (ns : List Nd) (h9 : Nine ns) (w : World) (hP : P.At w ns) (hlen : ns.length ≤ 16) (hV : ∀ x, x ∈ P.ls → ngSel tick [4] x = true → LossOk ns.length x) :
    Calls Try.prog 32 #[.pointer (some ⟨P.p, 0, none⟩), .int .i64 tick] w fun e w' =>
      e = .returned (.tuple #[]) ∧ w.grownBy w' (some P.bn) ∧ NdRow w' P.bn P.nc (sendTo (lostTo (P.ls.filter (ngSel tick [4]))) P.H G ns ns.length) := by
  refine (callsIn_wide (n := 9)).1 ?_
  refine callsIn_of_wp_marks Try.func32 rfl trivial ?_ rfl
  simp only [Try.ntmps32, List.size_toArray, List.length_cons, List.length_nil, Nat.reduceAdd, Nat.reduceSub, Array.replicate_succ, Array.replicate_zero, List.push_toArray, List.append_toArray, List.nil_append, List.cons_append]
  refine wpIn_wide.2 ?_
  have hsz := hP.bl
  have hpl := blk_lt' hP.hp
  have hpn := hP.pn
  have hbb := hP.bb
  have hnb := hP.nb
  have h3 : w.cell? ⟨P.p, 3, none⟩ = some (.slice P.Al P.ls.length P.lc) := (blk_cell' hP.hp 3).trans rfl
  have h4 : w.cell? ⟨P.p, 4, none⟩ = some (.slice P.An ns.length P.nc) := (blk_cell' hP.hp 4).trans rfl
  have h1 : w.cell? ⟨P.p, 1, none⟩ = some (.int .i64 P.H) := (blk_cell' hP.hp 1).trans rfl
  have h0 : w.cell? ⟨P.p, 0, none⟩ = some (.int .i64 G) := by rw [← hG]; exact (blk_cell' hP.hp 0).trans rfl
  go_wp2_with (first | ((with_reducible refine gate_dst (N := 4) rfl ?_); refine wpList_alloc_zero rfl 87 rfl lostZero zero87 ?_) | (go_at_call 39; refine (at_any P.p tick _ _ _ _).mono ?_; rintro e w' ⟨rfl, rfl⟩))
  rename_i Q1 K1 hK1
  obtain ⟨w1, hw1⟩ : ∃ w1, (((((w.alloc (.cells lostZero 87)).alloc (.cells #[.int .i64 4] 3)).alloc (.cells #[.pointer (some ⟨P.p, 0, none⟩)] 50)).alloc (.cells #[.int .i64 tick] 3)).alloc (.cells #[.slice (some ⟨w.heap.size + 1, 0, none⟩) 1 1] 34)) = w1 := ⟨_, rfl⟩
  obtain ⟨hs1, k0, k1, k2, k3, k4, hB1⟩ := alloc5 w w1 _ _ _ _ _ hw1
  rw [hw1]
  clear hw1
  have hin : AtIn w1 w1.heap.size w.heap.size (w.heap.size + 2) (w.heap.size + 3) (w.heap.size + 4) P.p (w.heap.size + 1) 1 [4] tick P.Al P.b P.off P.lc P.ls :=
    { ks1 := by simp
      ls1 := hP.l1
      hA := hP.hL
      ne := ⟨by omega, by omega, by omega, by omega, by omega, by omega⟩
      lt := ⟨by omega, by omega, by omega, by omega, by omega, fun _ => by omega⟩
      sz := Nat.le_refl _
      c1 := (blk_cell' k2 0).trans rfl
      c2 := (blk_cell' k3 0).trans rfl
      c3 := (blk_cell' k4 0).trans rfl
      c4 := (below_at hB1 hpl).trans h3
      c5 := fun j hj => by
        rw [blk_cell' k1 j]
        simp at hj
        subst hj
        rfl
      c6 := hP.hc.keep (fun o => below_at hB1 hbb) }
  refine (wpIn_wide (n := 9)).1 ?_
  refine wpIn_rangeFunc_ownH rfl (by omega) (gf := 44) (lb := #[.pointer (some ⟨w.heap.size + 2, 0, none⟩), .pointer (some ⟨w.heap.size + 3, 0, none⟩), .pointer (some ⟨w.heap.size + 4, 0, none⟩)]) rfl trivial (enters_of Try.func44 (by kernel_rfl) rfl)
    (at_stops (LossOk ns.length) 8 (by omega) hin hV) Bel.trans (bel_put (Nat.le_refl _)) (Below.refl _ _) (fun _ => rfl)
    (fun pre W => W.heap[w.heap.size]? = some (.cells ((lostTo (pre.map (·.1))).map Value.bool).toArray 87 (0, 0)) ∧ Bel w1.heap.size w.heap.size w1 W) (fun _ _ _ => False)
    (OwnFrom.and (own_blk (fun (pre : List {x : Ng // LossOk ns.length x}) => .cells ((lostTo (pre.map (·.1))).map Value.bool).toArray 87 (0, 0)) (by omega)) (own_bel (Nat.le_refl _) (Nat.le_refl _))) (fun _ _ _ _ _ hs _ _ => hs)
    ⟨k0, Bel.refl _ _ _⟩
    (fun x a' W => ∃ Bx, w1.heap.size ≤ Bx ∧ W.heap[Bx]? = some (.cells #[.int .i64 x.1.at_, .int .i64 x.1.kind, .int .i64 x.1.node, .int .i64 x.1.arg] 33 (0, 0)) ∧ a' = { tmps := #[.pointer (some ⟨P.p, 0, none⟩), .int .i64 tick, undef, undef, .pointer (some ⟨w.heap.size, 0, none⟩), .pointer (some ⟨Bx, 0, none⟩), undef, undef, undef, undef, undef, .pointer (some ⟨P.p, 0, none⟩), .int .i64 tick, .slice (some ⟨w.heap.size + 1, 0, none⟩) 1 1, .func (.func 44) #[] #[.pointer (some ⟨w.heap.size + 1 + 1, 0, none⟩), .pointer (some ⟨w.heap.size + 1 + 1 + 1, 0, none⟩), .pointer (some ⟨w.heap.size + 1 + 1 + 2, 0, none⟩)], .agg #[.int .i64 x.1.at_, .int .i64 x.1.kind, .int .i64 x.1.node, .int .i64 x.1.arg], undef, undef, undef, undef, undef, undef, undef, undef, undef, undef, undef, undef, undef, undef, undef, undef, undef, undef, undef, undef, undef, undef, undef, undef, undef, undef, undef, undef, undef, undef, undef, undef, undef, undef, undef, undef, undef, undef, undef, undef, undef, undef, undef, undef, undef, undef, undef, undef, undef, undef, undef, undef, undef, undef, undef, undef, undef, undef, undef, undef, undef, undef, undef, undef, undef, undef, undef, undef, undef, undef, undef], defers := [] })
    ?own ?assign ?body ?done ?stop
  case own =>
    rintro x a' s A B row ⟨Bx, b1, b2, b3⟩ hg hr
    exact ⟨Bx, b1, (hg.block Bx (blk_lt' b2) (fun e => by obtain ⟨_, o, ho, hc⟩ := hr Bx e.symm; rw [b2] at ho; cases ho; cases hc)).trans b2, b3⟩
  case assign =>
    rintro l pre x W K ⟨hr, hb⟩ hK
    have hk := hK { tmps := #[.pointer (some ⟨P.p, 0, none⟩), .int .i64 tick, undef, undef, .pointer (some ⟨w.heap.size, 0, none⟩), .pointer (some ⟨W.heap.size, 0, none⟩), undef, undef, undef, undef, undef, .pointer (some ⟨P.p, 0, none⟩), .int .i64 tick, .slice (some ⟨w.heap.size + 1, 0, none⟩) 1 1, .func (.func 44) #[] #[.pointer (some ⟨w.heap.size + 1 + 1, 0, none⟩), .pointer (some ⟨w.heap.size + 1 + 1 + 1, 0, none⟩), .pointer (some ⟨w.heap.size + 1 + 1 + 2, 0, none⟩)], .agg #[.int .i64 x.1.at_, .int .i64 x.1.kind, .int .i64 x.1.node, .int .i64 x.1.arg], undef, undef, undef, undef, undef, undef, undef, undef, undef, undef, undef, undef, undef, undef, undef, undef, undef, undef, undef, undef, undef, undef, undef, undef, undef, undef, undef, undef, undef, undef, undef, undef, undef, undef, undef, undef, undef, undef, undef, undef, undef, undef, undef, undef, undef, undef, undef, undef, undef, undef, undef, undef, undef, undef, undef, undef, undef, undef, undef, undef, undef, undef, undef, undef, undef, undef, undef, undef, undef, undef, undef], defers := [] } (W.alloc (.cells #[.int .i64 x.1.at_, .int .i64 x.1.kind, .int .i64 x.1.node, .int .i64 x.1.arg] 33)) ((KeepsOthers.alloc _ _).from _) ((Bel.refl _ _ W).alloc hb.size _)
      ⟨allocOld hr _, hb.alloc hb.size _⟩ ⟨W.heap.size, hb.size, World.alloc_heap_new W _, rfl⟩
    clear hK
    dsimp only [Ng.enc]
    gi_wp2
    exact hk
  case body =>
    rintro l pre x a' W hl ⟨r, hrec⟩ ⟨hlo, hbel⟩ ⟨Bx, hBx, bX, rfl⟩ hlt
    obtain ⟨⟨xa, xk, xn, xg⟩, hx1, hx2, hx3, hx4⟩ := x
    dsimp only at hx1 hx2 hx3 hx4 bX ⊢
    obtain ⟨k, rfl⟩ := Int.eq_ofNat_of_zero_le hx1
    obtain ⟨j, rfl⟩ := Int.eq_ofNat_of_zero_le hx3
    have hmx : Try.prog.follows .mixedOrders = true := by kernel_rfl
    have hll := lostTo_length (pre.map (·.1))
    have hb2 : Bx ≠ w.heap.size := by omega
    have q2 : W.cell? ⟨Bx, 2, none⟩ = some (.int .i64 k) := (blk_cell' bX 2).trans rfl
    have q3 : W.cell? ⟨Bx, 3, none⟩ = some (.int .i64 j) := (blk_cell' bX 3).trans rfl
    have q4 : W.cell? ⟨w.heap.size, k * 16 + j, none⟩ = some (.bool ((lostTo (pre.map (·.1))).getD (k * 16 + j) false)) := lost_cell hll hlo _ (by omega)
    have q6 : ∀ i, W.frozen? ⟨w.heap.size, i, none⟩ = false := fun i => blk_frozen' hlo i
    have z1 : (k : Int) < 16 := by omega
    have z2 : (j : Int) < 16 := by omega
    have HLL := Lib.hid hll
    have HS1 := Lib.hid hs1
    clear hll k0 k1 k2 k3 k4 h3 h4 h1 h0 hs1
    gi_wp2
    refine startR_ (n := 7) (S := fun w' => w'.cell? ⟨Bx, 2, none⟩ = some (.int .i64 k) ∧ w'.cell? ⟨Bx, 3, none⟩ = some (.int .i64 j)) (ds := [6]) #[false, false, false, false, false, false, false] (by kernel_rfl) rfl rfl (by kernel_rfl) (by rintro ⟨_, _, h⟩; exact h) ⟨q2, q3⟩ (fun hHeld => ?_)
    refine pure_ (i := 0) (N := some 16) (v := ?_) (a' := ?_) #[true, false, false, false, false, false, false] rfl rfl (by kernel_rfl) (fun _ _ _ h => h) (Or.inl ⟨by rfl, ?_⟩) ?_ ?_
    rotate_left
    · intro w'
      go_simp
      with_reducible rfl
    rotate_left
    · simp only [Act.put, List.setIfInBounds_toArray, List.set_cons_zero, List.set_cons_succ, i64_w, i32_w]
      rfl
    refine pure_ (i := 2) (N := some 18) (v := ?_) (a' := ?_) #[true, false, true, false, false, false, false] rfl rfl (by kernel_rfl) (fun _ _ _ h => h) (Or.inl ⟨by rfl, ?_⟩) ?_ ?_
    rotate_left
    · intro w'
      go_simp
      with_reducible rfl
    rotate_left
    · simp only [Act.put, List.setIfInBounds_toArray, List.set_cons_zero, List.set_cons_succ, i64_w, i32_w]
      rfl
    refine take_ (i := 1) (N := some 17) (v := ?_) (a' := ?_) #[true, true, true, false, false, false, false] rfl rfl (by kernel_rfl) (fun _ _ _ h => h) (Or.inl ⟨by rfl, ?_⟩) hHeld ?_ ?_
    rotate_left
    · rintro w' ⟨s0, s1⟩
      go_simp
      with_reducible rfl
    rotate_left
    · simp only [Act.put, List.setIfInBounds_toArray, List.set_cons_zero, List.set_cons_succ, i64_w, i32_w]
      rfl
    refine pure_ (i := 4) (N := some 20) (v := ?_) (a' := ?_) #[true, true, true, false, true, false, false] rfl rfl (by kernel_rfl) (fun _ _ _ h => h) (Or.inl ⟨by rfl, ?_⟩) ?_ ?_
    rotate_left
    · intro w'
      go_simp
      with_reducible rfl
    rotate_left
    · simp only [Act.put, List.setIfInBounds_toArray, List.set_cons_zero, List.set_cons_succ, i64_w, i32_w]
      rfl
    refine take_ (i := 3) (N := some 19) (v := ?_) (a' := ?_) #[true, true, true, true, true, false, false] rfl rfl (by kernel_rfl) (fun _ _ _ h => h) (Or.inl ⟨by rfl, ?_⟩) hHeld ?_ ?_
    rotate_left
    · rintro w' ⟨s0, s1⟩
      go_simp
      with_reducible rfl
    rotate_left
    · simp only [Act.put, List.setIfInBounds_toArray, List.set_cons_zero, List.set_cons_succ, i64_w, i32_w]
      rfl
    refine pure_ (i := 5) (N := some 21) (v := ?_) (a' := ?_) #[true, true, true, true, true, true, false] rfl rfl (by kernel_rfl) (fun _ _ _ h => h) (Or.inl ⟨by rfl, ?_⟩) ?_ ?_
    rotate_left
    · intro w'
      go_simp
      with_reducible rfl
    rotate_left
    · simp only [Act.put, List.setIfInBounds_toArray, List.set_cons_zero, List.set_cons_succ, i64_w, i32_w]
      rfl
    refine last_ (i := 6) (N := none) #[true, true, true, true, true, true, true] rfl rfl (by kernel_rfl) (by decide) (fun K hK => ?_)
    refine skip_ (w1 := ?_) (by rfl) rfl ?_ ?_
    rotate_left
    · go_simp
      rfl
    refine hK.out _ _ ?_
    clear hK K
    refine done_ (by kernel_rfl) ?_
    gi_wp2
    have hb3 := ((Bel.refl w1.heap.size w.heap.size W).set (p := ⟨w.heap.size, k * 16 + j, none⟩) (.inl rfl) (.bool true)).drew
    exact ⟨((KeepsOthers.setCell W ⟨w.heap.size, k * 16 + j, none⟩ _).trans (KeepsOthers.drew _)).from _, hb3, by (try unfold List.unattach); rw [List.map_append, List.map_cons, List.map_nil, lostTo_snoc]; exact lost_set hlo _, hbel.trans hb3⟩
  case done =>
    rintro D xs W hD hxs ⟨hlo, hbel⟩ hK
    rw [hxs] at hlo
    have hfil : ngTo tick [4] P.ls P.ls.length = P.ls.filter (ngSel tick [4]) := by simp [ngTo]
    rw [hfil] at hlo
    obtain ⟨lo, hlodef⟩ : ∃ lo, lostTo (P.ls.filter (ngSel tick [4])) = lo := ⟨_, rfl⟩
    have hll := lostTo_length (P.ls.filter (ngSel tick [4]))
    rw [hlodef] at hlo hll
    have hrow : NdRow W P.bn P.nc ns := (hP.hn.kept (fun hlt => hB1.block _ hlt)).kept (fun hlt => hbel.block _ hlt (by omega))
    have q4 : W.cell? ⟨P.p, 4, none⟩ = some (.slice P.An ns.length P.nc) := (hbel.at_ (by omega) (by omega)).trans ((below_at hB1 hpl).trans h4)
    have q1 : W.cell? ⟨P.p, 1, none⟩ = some (.int .i64 P.H) := (hbel.at_ (by omega) (by omega)).trans ((below_at hB1 hpl).trans h1)
    have q0 : W.cell? ⟨P.p, 0, none⟩ = some (.int .i64 G) := (hbel.at_ (by omega) (by omega)).trans ((below_at hB1 hpl).trans h0)
    have hW1 : w1.heap.size ≤ W.heap.size := hbel.size
    have HX := Lib.hid hxs
    have HS1 := Lib.hid hs1
    have HLD := Lib.hid hlodef
    have HLL := Lib.hid hll
    have zs : w.heap.size < w1.heap.size := by omega
    clear hxs hfil hs1 hlodef hll k0 k1 k2 k3 k4 h4 h3 h1 h0
    go_wp2
    go_loopw [27] (fun i wr => ∃ k : Nat, k ≤ ns.length ∧ i = .int .i64 k ∧ NdRow wr P.bn P.nc (sendTo lo P.H G ns k) ∧ Bel W.heap.size P.bn W wr) (fun i _ => ns.length - (intOf i).toNat)
    case atStart => exact ⟨0, Nat.zero_le _, rfl, hrow, Bel.refl _ _ _⟩
    case round =>
      obtain ⟨k, hk, rfl, hr, hb⟩ := hrel
      obtain ⟨wa, rfl⟩ : ∃ wa : World, wa = wr := ⟨_, rfl⟩
      have p4 : wa.cell? ⟨P.p, 4, none⟩ = some (.slice P.An ns.length P.nc) := (hb.at_ (by omega) hpn).trans q4
      by_cases hlt : k < ns.length
      · have hAn := hP.hA (by omega)
        have hN := sendTo_nine lo P.H G h9 k
        have hL := sendTo_length lo P.H G ns k
        obtain ⟨nd, hnd⟩ : ∃ nd, (sendTo lo P.H G ns k)[k]? = some nd := ⟨_, List.getElem?_eq_getElem (by omega)⟩
        have ht := hN.get hnd
        have Hc : Hid (∀ j v, nd.cells[j]? = some v → wa.cell? ((⟨P.bn, k * 17, none⟩ : Addr).add j) = some v) := by
          intro j v hj
          have := (List.getElem?_eq_some_iff.1 hj).1
          rw [nd.cells_length ht] at this
          rw [add_off, hr.cell hN hnd j (by omega)]
          exact hj
        have zp : P.p < wa.heap.size := by have := hb.size; omega
        have zr := hb.size
        have HSU := Lib.hid (sendTo_succ lo P.H G ns k nd hnd)
        have HL := Lib.hid hL
        rw [hAn] at p4 ⊢
        clear hnd hL
        go_wp2_with (first | ((with_reducible refine gate_dst (N := 31) rfl ?_); refine wpList_load_list rfl 68 _ rfl ⟨P.bn, k * 17, none⟩ rfl nd.cells 17 (nd.cells_length ht) _ Try.underlying68 rfl size68 Hc.out ?_) | ((with_reducible refine gate_store (t := 68) (p := 7) rfl ?_); refine wpList_store_new rfl 68 _ _ rfl wa _ nd.cells.toArray rfl rfl rfl (by rw [size68]; simp [nd.cells_length ht]) (by simp [nd.cells_length ht]) nd.cells_one ?_))
        obtain ⟨w2, hw2⟩ : ∃ w2, wa.alloc (.cells nd.cells.toArray 68) = w2 := ⟨_, rfl⟩
        have kn : w2.heap[wa.heap.size]? = some (.cells nd.cells.toArray 68 (0, 0)) := by rw [← hw2]; exact World.alloc_heap_new wa _
        have hB2 : Below wa.heap.size wa w2 := by rw [← hw2]; exact (Below.refl _ wa).alloc (Nat.le_refl _) _
        have hz2 : wa.heap.size < w2.heap.size := blk_lt' kn
        have hr2 : NdRow w2 P.bn P.nc (sendTo lo P.H G ns k) := hr.kept (fun hlt => hB2.block _ hlt)
        have o4 : w2.cell? ⟨P.p, 4, none⟩ = some (.slice (some ⟨P.bn, 0, none⟩) ns.length P.nc) := (below_at hB2 zp).trans p4
        have o1 : w2.cell? ⟨P.p, 1, none⟩ = some (.int .i64 P.H) := (below_at hB2 zp).trans ((hb.at_ (by omega) hpn).trans q1)
        have o0 : w2.cell? ⟨P.p, 0, none⟩ = some (.int .i64 G) := (below_at hB2 zp).trans ((hb.at_ (by omega) hpn).trans q0)
        have ol : w2.heap[w.heap.size]? = some (.cells (lo.map Value.bool).toArray 87 (0, 0)) := (hB2.block _ (by omega)).trans ((hb.block _ (by omega) (by omega)).trans hlo)
        have zb : P.bn < wa.heap.size := by omega
        rw [hw2]
        clear hw2 p4 q4 q1 q0 Hc
        go_loopw [37] (fun i w3 => ∃ j : Nat, j ≤ ns.length ∧ i = .int .i64 j ∧ NdRow w3 P.bn P.nc (rowTo' lo P.H nd.asks G k (sendTo lo P.H G ns k) j) ∧ Bel w2.heap.size P.bn w2 w3) (fun i _ => ns.length - (intOf i).toNat)
        case atStart => exact ⟨0, Nat.zero_le _, rfl, hr2, Bel.refl _ _ _⟩
        case round =>
          obtain ⟨j, hj, rfl, hr3, hb3⟩ := hrel
          obtain ⟨wb, rfl⟩ : ∃ wb : World, wb = wr := ⟨_, rfl⟩
          have n4 : wb.cell? ⟨P.p, 4, none⟩ = some (.slice (some ⟨P.bn, 0, none⟩) ns.length P.nc) := (hb3.at_ (by omega) hpn).trans o4
          have n0 : wb.cell? ⟨P.p, 0, none⟩ = some (.int .i64 G) := (hb3.at_ (by omega) hpn).trans o0
          by_cases hlt3 : j < ns.length
          · have hN3 := rowTo'_nine lo P.H nd.asks G k hN j
            have hL3 := rowTo'_length lo P.H nd.asks G k (sendTo lo P.H G ns k) j
            rw [HL.out] at hL3
            obtain ⟨x, hx⟩ : ∃ x, (rowTo' lo P.H nd.asks G k (sendTo lo P.H G ns k) j)[j]? = some x := ⟨_, List.getElem?_eq_getElem (by omega)⟩
            have htx := hN3.get hx
            have HSU3 := Lib.hid (rowTo'_succ lo P.H nd.asks G k (sendTo lo P.H G ns k) j x hx)
            obtain ⟨ms, hms⟩ : ∃ ms, rowTo' lo P.H nd.asks G k (sendTo lo P.H G ns k) j = ms := ⟨_, rfl⟩
            rw [hms] at hr3 hN3 hL3 hx HSU3
            obtain ⟨l, hl⟩ : ∃ l, lo.getD (k * 16 + j) false = l := ⟨_, rfl⟩
            rw [hl] at HSU3
            have hlc : wb.cell? ⟨w.heap.size, k * 16 + j, none⟩ = some (.bool l) := by
              rw [← hl]
              exact lost_cell HLL.out ((hb3.block _ (by omega) (by omega)).trans ol) _ (by omega)
            have hac : wb.cell? ⟨wa.heap.size, 5, none⟩ = some (.int .i64 nd.asks) := (hb3.at_ (by omega) (by omega)).trans (blk_cell' kn 5)
            have n1 : wb.cell? ⟨P.p, 1, none⟩ = some (.int .i64 P.H) := (hb3.at_ (by omega) hpn).trans o1
            have zb3 : w2.heap.size ≤ wb.heap.size := hb3.size
            have HM := Lib.hid hms
            have HLo := Lib.hid hl
            have HX3 := Lib.hid hx
            have HL3 := Lib.hid hL3
            clear hms hl hx hL3 o4 o0
            go_wp2
            go_loopw [51] (fun i w4 => ∃ g : Nat, g ≤ G ∧ i = .int .i64 g ∧ NdRow w4 P.bn P.nc (ms.set j (sendG l P.H nd.asks x g)) ∧ Bel wb.heap.size P.bn wb w4) (fun i _ => G - (intOf i).toNat)
            case atStart => exact ⟨0, Nat.zero_le _, rfl, by rw [sendG, set_same HX3.out]; exact hr3, Bel.refl _ _ _⟩
            case round =>
              obtain ⟨g, hg, rfl, hr4, hb4⟩ := hrel
              obtain ⟨wc, rfl⟩ : ∃ wc : World, wc = wr := ⟨_, rfl⟩
              have hjl : j < ms.length := by rw [HL3.out]; omega
              have hx4 : (ms.set j (sendG l P.H nd.asks x g))[j]? = some (sendG l P.H nd.asks x g) := List.getElem?_set_self hjl
              have ht4 := sendG_nine l P.H nd.asks x g htx
              have hN4 : Nine (ms.set j (sendG l P.H nd.asks x g)) := hN3.set j ht4
              by_cases hlt4 : g < G
              · have m1 : wc.cell? ⟨P.p, 1, none⟩ = some (.int .i64 P.H) := (hb4.at_ (by omega) hpn).trans n1
                have ml : wc.cell? ⟨w.heap.size, k * 16 + j, none⟩ = some (.bool l) := (hb4.at_ (by omega) (by omega)).trans hlc
                have ma : wc.cell? ⟨wa.heap.size, 5, none⟩ = some (.int .i64 nd.asks) := (hb4.at_ (by omega) (by omega)).trans hac
                have mg : wc.cell? ⟨P.bn, j * 17, none⟩ = some (.int .i64 x.s.f0) := by
                  have := hr4.cell hN4 hx4 0 (by omega)
                  rw [Nat.add_zero] at this
                  rw [this, ← sendG_s l P.H nd.asks x g]
                  rfl
                have mt : ∃ v, wc.cell? ⟨P.bn, j * 17 + 6 + g, none⟩ = some v := by
                  rw [show j * 17 + 6 + g = j * 17 + (6 + g) from by omega]
                  exact ⟨_, (hr4.cell hN4 hx4 (6 + g) (by omega)).trans (Nd.get_tm _ ht4 g (by omega))⟩
                obtain ⟨vt, mt⟩ := mt
                have mf : ∀ i, wc.frozen? ⟨P.bn, i, none⟩ = false := fun i => hr4.frozen (by rw [List.length_set]; omega) i
                have HX4 := Lib.hid hx4
                clear hx4 n4 n0 n1 hlc hac
                have z1 : (k : Int) < 16 := by omega
                have z2 : (j : Int) < 16 := by omega
                have z3 : (g : Int) < 9 := by omega
                cases l
                · cases hh : hit nd.asks x.s.f0 g
                  · have hsg : sendG false P.H nd.asks x (g + 1) = sendG false P.H nd.asks x g := by rw [sendG, hh]; rfl
                    have HSG := Lib.hid hsg
                    unfold hit at hh
                    clear hsg
                    go_wp2
                    go_quiet (fail)
                    go_wp2
                    exact ⟨⟨g + 1, by omega, by simp, by rw [HSG.out]; exact hr4.kept (fun _ => rfl), hb4.drewN _⟩, by simp [intOf]; omega⟩
                  · have hsg : sendG false P.H nd.asks x (g + 1) = { sendG false P.H nd.asks x g with tm := (sendG false P.H nd.asks x g).tm.set g P.H } := by rw [sendG, hh]; rfl
                    have HSG := Lib.hid hsg
                    unfold hit at hh
                    clear hsg
                    go_wp2
                    go_quiet (fail)
                    go_wp2
                    refine wp_calm ?_
                    refine start_ (n := 11) (S := fun w' => w'.cell? ⟨P.p, 1, none⟩ = some (.int .i64 P.H)) (ds := [10]) #[false, false, false, false, false, false, false, false, false, false, false] (by kernel_rfl) rfl rfl (m1) (fun hHeld => ?_)
                    refine pure_ (i := 0) (N := some 74) (v := ?_) (a' := ?_) #[true, false, false, false, false, false, false, false, false, false, false] rfl rfl (by kernel_rfl) (fun _ _ _ h => h) (Or.inl ⟨by rfl, ?_⟩) ?_ ?_
                    rotate_left
                    · intro w'
                      go_simp
                      with_reducible rfl
                    rotate_left
                    · simp only [Act.put, List.setIfInBounds_toArray, List.set_cons_zero, List.set_cons_succ, i64_w, i32_w]
                      rfl
                    refine pure_ (i := 1) (N := some 75) (v := ?_) (a' := ?_) #[true, true, false, false, false, false, false, false, false, false, false] rfl rfl (by kernel_rfl) (fun _ _ _ h => h) (Or.inl ⟨by rfl, ?_⟩) ?_ ?_
                    rotate_left
                    · intro w'
                      go_simp
                      with_reducible rfl
                    rotate_left
                    · simp only [Act.put, List.setIfInBounds_toArray, List.set_cons_zero, List.set_cons_succ, i64_w, i32_w]
                      rfl
                    refine pure_ (i := 2) (N := some 76) (v := ?_) (a' := ?_) #[true, true, true, false, false, false, false, false, false, false, false] rfl rfl (by kernel_rfl) (fun _ _ _ h => h) (Or.inl ⟨by rfl, ?_⟩) ?_ ?_
                    rotate_left
                    · intro w'
                      go_simp
                      with_reducible rfl
                    rotate_left
                    · simp only [Act.put, List.setIfInBounds_toArray, List.set_cons_zero, List.set_cons_succ, i64_w, i32_w]
                      rfl
                    refine pure_ (i := 3) (N := some 77) (v := ?_) (a' := ?_) #[true, true, true, true, false, false, false, false, false, false, false] rfl rfl (by kernel_rfl) (fun _ _ _ h => h) (Or.inl ⟨by rfl, ?_⟩) ?_ ?_
                    rotate_left
                    · intro w'
                      go_simp
                      with_reducible rfl
                    rotate_left
                    · simp only [Act.put, List.setIfInBounds_toArray, List.set_cons_zero, List.set_cons_succ, i64_w, i32_w]
                      rfl
                    refine pure_ (i := 4) (N := some 78) (v := ?_) (a' := ?_) #[true, true, true, true, true, false, false, false, false, false, false] rfl rfl (by kernel_rfl) (fun _ _ _ h => h) (Or.inl ⟨by rfl, ?_⟩) ?_ ?_
                    rotate_left
                    · intro w'
                      go_simp
                      with_reducible rfl
                    rotate_left
                    · simp only [Act.put, List.setIfInBounds_toArray, List.set_cons_zero, List.set_cons_succ, i64_w, i32_w]
                      rfl
                    refine pure_ (i := 5) (N := some 79) (v := ?_) (a' := ?_) #[true, true, true, true, true, true, false, false, false, false, false] rfl rfl (by kernel_rfl) (fun _ _ _ h => h) (Or.inl ⟨by rfl, ?_⟩) ?_ ?_
                    rotate_left
                    · intro w'
                      go_simp
                      with_reducible rfl
                    rotate_left
                    · simp only [Act.put, List.setIfInBounds_toArray, List.set_cons_zero, List.set_cons_succ, i64_w, i32_w]
                      rfl
                    refine pure_ (i := 7) (N := some 81) (v := ?_) (a' := ?_) #[true, true, true, true, true, true, false, true, false, false, false] rfl rfl (by kernel_rfl) (fun _ _ _ h => h) (Or.inl ⟨by rfl, ?_⟩) ?_ ?_
                    rotate_left
                    · intro w'
                      go_simp
                      with_reducible rfl
                    rotate_left
                    · simp only [Act.put, List.setIfInBounds_toArray, List.set_cons_zero, List.set_cons_succ, i64_w, i32_w]
                      rfl
                    refine pure_ (i := 8) (N := some 82) (v := ?_) (a' := ?_) #[true, true, true, true, true, true, false, true, true, false, false] rfl rfl (by kernel_rfl) (fun _ _ _ h => h) (Or.inl ⟨by rfl, ?_⟩) ?_ ?_
                    rotate_left
                    · intro w'
                      go_simp
                      with_reducible rfl
                    rotate_left
                    · simp only [Act.put, List.setIfInBounds_toArray, List.set_cons_zero, List.set_cons_succ, i64_w, i32_w]
                      rfl
                    refine take_ (i := 6) (N := some 80) (v := ?_) (a' := ?_) #[true, true, true, true, true, true, true, true, true, false, false] rfl rfl (by kernel_rfl) (fun _ _ _ h => h) (Or.inl ⟨by rfl, ?_⟩) hHeld ?_ ?_
                    rotate_left
                    · intro w' s0
                      go_simp
                      with_reducible rfl
                    rotate_left
                    · simp only [Act.put, List.setIfInBounds_toArray, List.set_cons_zero, List.set_cons_succ, i64_w, i32_w]
                      rfl
                    refine pure_ (i := 9) (N := some 83) (v := ?_) (a' := ?_) #[true, true, true, true, true, true, true, true, true, true, false] rfl rfl (by kernel_rfl) (fun _ _ _ h => h) (Or.inl ⟨by rfl, ?_⟩) ?_ ?_
                    rotate_left
                    · intro w'
                      go_simp
                      with_reducible rfl
                    rotate_left
                    · simp only [Act.put, List.setIfInBounds_toArray, List.set_cons_zero, List.set_cons_succ, i64_w, i32_w]
                      rfl
                    refine last_ (i := 10) (N := none) #[true, true, true, true, true, true, true, true, true, true, true] rfl rfl (by kernel_rfl) (by decide) (fun K hK => ?_)
                    refine skip_ (w1 := ?_) (by rfl) rfl ?_ ?_
                    rotate_left
                    · go_simp
                      rfl
                    refine hK.out _ _ ?_
                    clear hK K
                    refine done_ (by kernel_rfl) ?_
                    refine calm_normal ?_
                    go_wp2
                    have hst := hr4.store hN4 { sendG false P.H nd.asks x g with tm := (sendG false P.H nd.asks x g).tm.set g P.H } HX4.out (6 + g) (by omega) (.int .i64 P.H) (Nd.cells_tm _ ht4 g (by omega) P.H)
                    rw [List.set_set, ← HSG.out, ← Nat.add_assoc] at hst
                    exact ⟨⟨g + 1, by omega, by simp, hst.1.kept (fun _ => rfl), ((hb4.set (p := ⟨P.bn, j * 17 + 6 + g, none⟩) (.inl rfl) _).drewN _).drew⟩, by simp [intOf]; omega⟩
                · have hsg : sendG true P.H nd.asks x (g + 1) = sendG true P.H nd.asks x g := by rw [sendG]; rfl
                  have HSG := Lib.hid hsg
                  clear hsg
                  go_wp2
                  go_quiet (fail)
                  go_wp2
                  exact ⟨⟨g + 1, by omega, by simp, by rw [HSG.out]; exact hr4.kept (fun _ => rfl), hb4.drewN _⟩, by simp [intOf]; omega⟩
              · obtain rfl : g = G := by omega
                rw [← HSU3.out, ] at hr4
                have HR4 := Lib.hid hr4
                clear hr4
                go_wp2
                exact ⟨⟨j + 1, by omega, by simp, HR4.out, hb3.trans (hb4.mono zb3)⟩, by simp [intOf]; omega⟩
          · obtain rfl : j = ns.length := by omega
            rw [← HSU.out] at hr3
            have HR3 := Lib.hid hr3
            clear hr3
            go_wp2
            exact ⟨⟨k + 1, by omega, by simp, HR3.out, (hb.trans ((Bel.of_below hB2).mono zr)).trans (hb3.mono (by omega))⟩, by simp [intOf]; omega⟩
      · obtain rfl : k = ns.length := by omega
        have hK2 : wa.heap[D]? = some (.deferred (some [])) := (hb.block D (blk_lt' hK) (by omega)).trans hK
        go_wp2
        refine ⟨by simp, .inl ⟨_, _, rfl, run_takeDeferred hK2, ?_⟩⟩
        refine ⟨_, results_none rfl _ _ _, rfl, ?_, ?_⟩
        · have e0 : Bel w.heap.size P.bn w w1 := Bel.of_below hB1
          have e1 : Bel w.heap.size P.bn w1 W := ⟨hbel.os, hbel.tape, hbel.output, hbel.size, fun k hk _ => hbel.block k (by omega) (by omega)⟩
          have e2 : Bel w.heap.size P.bn W wa := hb.mono (by omega)
          exact (((e0.trans e1).trans e2).put (by omega) _).grown
        · rw [HLD.out]
          exact hr.kept (fun hlt => World.putObj_heap_other (by omega))
  case stop =>
    rintro D c pre W _ _ h _
    exact h.elim
end Go.Proofs.Ytiglkpgoakibaab
