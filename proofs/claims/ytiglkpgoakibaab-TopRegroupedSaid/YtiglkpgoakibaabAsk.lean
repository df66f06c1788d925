/- Nodes ask and leave in a tick ((*play).ask): the walk. -/
import Derived.Test.YtiglkpgoakibaabPlay
import Derived.Test.YtiglkpgoakibaabRound
namespace Go.Proofs.Ytiglkpgoakibaab
open Go.RowKit Go.Shelf PTopRegrouped Go.Proofs.YtiglkpgoakibaabW.PrintWords Go.Proofs.YtiglkpgoakibaabW.PrintLast
attribute [local go_sem] Oper.semAt_some

def askV (a : Int) (x : Ng) : Int :=
  if x.kind = 2 then Go.bits .andNot .i64 (Go.bits .or .i64 a (2 ^ x.arg.toNat)) (2 ^ x.arg.toNat) else Go.bits .or .i64 a (2 ^ x.arg.toNat)
def askStep (ns : List Nd) (x : Ng) : List Nd := match ns[x.node.toNat]? with
  | some nd => ns.set x.node.toNat { nd with asks := askV nd.asks x }
  | none => ns
def askTo (ns : List Nd) (xs : List Ng) : List Nd := xs.foldl askStep ns
theorem askTo_snoc (ns : List Nd) (xs : List Ng) (x : Ng) : askTo ns (xs ++ [x]) = askStep (askTo ns xs) x := by simp [askTo]
theorem askStep_length (ns : List Nd) (x : Ng) : (askStep ns x).length = ns.length := by
  unfold askStep
  split <;> simp
theorem askTo_length (ns : List Nd) (xs : List Ng) : (askTo ns xs).length = ns.length := by
  induction xs generalizing ns with
  | nil => rfl
  | cons x xs ih => exact (ih (askStep ns x)).trans (askStep_length ns x)
theorem askStep_nine {ns : List Nd} (h : Nine ns) (x : Ng) : Nine (askStep ns x) := by
  unfold askStep
  split
  · rename_i nd hnd
    have hx := h.get hnd
    exact h.set _ hx
  · exact h
theorem askTo_nine {ns : List Nd} (h : Nine ns) (xs : List Ng) : Nine (askTo ns xs) := by
  induction xs generalizing ns with
  | nil => exact h
  | cons x xs ih => exact ih (askStep_nine h x)

/-- The groups that some of the first k nodes ask for. -/
def orTo (ns : List Nd) : Nat → Int
  | 0 => 0
  | k + 1 => Go.bits .or .i64 (orTo ns k) ((ns[k]?).map (·.asks) |>.getD 0)

/-- What is known of a nudge that is asked for here. -/
def AskOk (n : Nat) (x : Ng) : Prop := 0 ≤ x.node ∧ x.node < n ∧ 0 ≤ x.arg ∧ x.arg ≤ 7

set_option linter.unusedSimpArgs false
theorem size68 : (Try.prog.info? 68).map (·.size) = some 17 := by kernel_rfl
theorem askV_leave (a xa xn : Int) (j : Nat) (hj : (j : Int) ≤ 7) : Go.bits .andNot .i64 (Go.bits .or .i64 a (wrap64 (2 ^ j))) (wrap64 (2 ^ j)) = askV a ⟨xa, 2, xn, j⟩ := by
  rw [wrap_pow j (by omega)]
  rfl
theorem askV_ask (a xa xk xn : Int) (j : Nat) (hj : (j : Int) ≤ 7) (hk : xk ≠ 2) : Go.bits .or .i64 a (wrap64 (2 ^ j)) = askV a ⟨xa, xk, xn, j⟩ := by
  rw [wrap_pow j (by omega)]
  unfold askV
  rw [if_neg hk]
  rfl
theorem askStep_at (ns : List Nd) (nd : Nd) (k : Nat) (xa xk xg : Int) (h : ns[k]? = some nd) : ns.set k { nd with asks := askV nd.asks ⟨xa, xk, k, xg⟩ } = askStep ns ⟨xa, xk, k, xg⟩ := by
  unfold askStep
  simp only [Int.toNat_natCast, h]

set_option maxRecDepth 100000 in
set_option maxHeartbeats 1000000 in
theorem ask_any (P : Pl) (tick : Int) (ns : List Nd) (h9 : Nine ns) (w : World) (hP : P.At w ns) (hlen : ns.length ≤ 16) (hV : ∀ x, x ∈ P.ls → ngSel tick [1, 2] x = true → AskOk ns.length x) :
    Calls Try.prog 30 #[.pointer (some ⟨P.p, 0, none⟩), .int .i64 tick] w fun e w' =>
      e = .returned (.int .i64 (orTo (askTo ns (P.ls.filter (ngSel tick [1, 2]))) ns.length)) ∧ w.grownBy w' (some P.bn) ∧ NdRow w' P.bn P.nc (askTo ns (P.ls.filter (ngSel tick [1, 2]))) := by
  refine (callsIn_wide (n := 9)).1 ?_
  refine callsIn_of_wp_marks Try.func30 rfl trivial ?_ rfl
  simp only [Try.ntmps30, List.size_toArray, List.length_cons, List.length_nil, Nat.reduceAdd, Nat.reduceSub, Array.replicate_succ, Array.replicate_zero, List.push_toArray, List.append_toArray, List.nil_append, List.cons_append]
  refine wpIn_wide.2 ?_
  go_wp2_with (go_at_call 39; refine (at_any P.p tick _ _ _ _).mono ?_; rintro e w' ⟨rfl, rfl⟩)
  rename_i Q1 K1 hK1
  have hsz := hP.bl
  have hpl := blk_lt' hP.hp
  have hpn := hP.pn
  have hbb := hP.bb
  have hnb := hP.nb
  have h3 : w.cell? ⟨P.p, 3, none⟩ = some (.slice P.Al P.ls.length P.lc) := (blk_cell' hP.hp 3).trans rfl
  have h4 : w.cell? ⟨P.p, 4, none⟩ = some (.slice P.An ns.length P.nc) := (blk_cell' hP.hp 4).trans rfl
  obtain ⟨w1, hw1⟩ : ∃ w1, (((((w.alloc (.cells #[.pointer (some ⟨P.p, 0, none⟩)] 50)).alloc (.cells #[.int .i64 1, .int .i64 2] 3)).alloc (.cells #[.pointer (some ⟨P.p, 0, none⟩)] 50)).alloc (.cells #[.int .i64 tick] 3)).alloc (.cells #[.slice (some ⟨w.heap.size + 1, 0, none⟩) 2 2] 34)) = w1 := ⟨_, rfl⟩
  obtain ⟨hs1, k0, k1, k2, k3, k4, hB1⟩ := alloc5 w w1 _ _ _ _ _ hw1
  rw [hw1]
  clear hw1
  have hin : AtIn w1 w1.heap.size P.bn (w.heap.size + 2) (w.heap.size + 3) (w.heap.size + 4) P.p (w.heap.size + 1) 2 [1, 2] tick P.Al P.b P.off P.lc P.ls :=
    { ks1 := by simp
      ls1 := hP.l1
      hA := hP.hL
      ne := ⟨by omega, by omega, by omega, hpn, by omega, hnb⟩
      lt := ⟨by omega, by omega, by omega, by omega, by omega, fun _ => by omega⟩
      sz := Nat.le_refl _
      c1 := (blk_cell' k2 0).trans rfl
      c2 := (blk_cell' k3 0).trans rfl
      c3 := (blk_cell' k4 0).trans rfl
      c4 := (below_at hB1 hpl).trans h3
      c5 := fun j hj => by
        rw [blk_cell' k1 j]
        simp at hj
        match j, hj with
        | 0, _ => rfl
        | 1, _ => rfl
      c6 := hP.hc.keep (fun o => below_at hB1 hbb) }
  refine (wpIn_wide (n := 9)).1 ?_
  refine wpIn_rangeFunc_ownH rfl (by omega) (gf := 44) (lb := #[.pointer (some ⟨w.heap.size + 2, 0, none⟩), .pointer (some ⟨w.heap.size + 3, 0, none⟩), .pointer (some ⟨w.heap.size + 4, 0, none⟩)]) rfl trivial (enters_of Try.func44 (by kernel_rfl) rfl)
    (at_stops (AskOk ns.length) 8 (by omega) hin hV) Bel.trans (bel_put (Nat.le_refl _)) (Below.refl _ _) (fun _ => rfl)
    (fun pre W => NdRow W P.bn P.nc (askTo ns (pre.map (·.1))) ∧ Bel w1.heap.size P.bn w1 W) (fun _ _ _ => False)
    (OwnFrom.and (own_row _ (by omega)) (own_bel (Nat.le_refl _) (Nat.le_refl _))) (fun _ _ _ _ _ hs _ _ => hs)
    ⟨hP.hn.kept (fun hlt => hB1.block _ hlt), Bel.refl _ _ _⟩
    (fun x a' W => ∃ Bx, w1.heap.size ≤ Bx ∧ W.heap[Bx]? = some (.cells #[.int .i64 x.1.at_, .int .i64 x.1.kind, .int .i64 x.1.node, .int .i64 x.1.arg] 33 (0, 0)) ∧ a' = { tmps := #[.pointer (some ⟨P.p, 0, none⟩), .int .i64 tick, .pointer (some ⟨w.heap.size, 0, none⟩), undef, .int .i64 0, .pointer (some ⟨Bx, 0, none⟩), undef, undef, undef, .pointer (some ⟨P.p, 0, none⟩), .int .i64 tick, .slice (some ⟨w.heap.size + 1, 0, none⟩) 2 2, .func (.func 44) #[] #[.pointer (some ⟨w.heap.size + 1 + 1, 0, none⟩), .pointer (some ⟨w.heap.size + 1 + 1 + 1, 0, none⟩), .pointer (some ⟨w.heap.size + 1 + 1 + 2, 0, none⟩)], (.agg #[.int .i64 x.1.at_, .int .i64 x.1.kind, .int .i64 x.1.node, .int .i64 x.1.arg]), undef, undef, undef, undef, undef, undef, undef, undef, undef, undef, undef, undef, undef, undef, undef, undef, undef, undef, undef, undef, undef, undef, undef, undef, undef, undef, undef, undef, undef, undef, undef, undef, undef, undef, undef, undef, undef, undef, undef, undef, undef, undef, undef, undef, undef], defers := [] })
    ?own ?assign ?body ?done ?stop
  case own =>
    rintro x a' s A B row ⟨Bx, b1, b2, b3⟩ hg hr
    exact ⟨Bx, b1, (hg.block Bx (blk_lt' b2) (fun e => by obtain ⟨_, o, ho, hc⟩ := hr Bx e.symm; rw [b2] at ho; cases ho; cases hc)).trans b2, b3⟩
  case assign =>
    rintro l pre x W K ⟨hr, hb⟩ hK
    have hk := hK { tmps := #[.pointer (some ⟨P.p, 0, none⟩), .int .i64 tick, .pointer (some ⟨w.heap.size, 0, none⟩), undef, .int .i64 0, .pointer (some ⟨W.heap.size, 0, none⟩), undef, undef, undef, .pointer (some ⟨P.p, 0, none⟩), .int .i64 tick, .slice (some ⟨w.heap.size + 1, 0, none⟩) 2 2, .func (.func 44) #[] #[.pointer (some ⟨w.heap.size + 1 + 1, 0, none⟩), .pointer (some ⟨w.heap.size + 1 + 1 + 1, 0, none⟩), .pointer (some ⟨w.heap.size + 1 + 1 + 2, 0, none⟩)], (.agg #[.int .i64 x.1.at_, .int .i64 x.1.kind, .int .i64 x.1.node, .int .i64 x.1.arg]), undef, undef, undef, undef, undef, undef, undef, undef, undef, undef, undef, undef, undef, undef, undef, undef, undef, undef, undef, undef, undef, undef, undef, undef, undef, undef, undef, undef, undef, undef, undef, undef, undef, undef, undef, undef, undef, undef, undef, undef, undef, undef, undef, undef, undef], defers := [] } (W.alloc (.cells #[.int .i64 x.1.at_, .int .i64 x.1.kind, .int .i64 x.1.node, .int .i64 x.1.arg] 33)) ((KeepsOthers.alloc _ _).from _) ((Bel.refl _ _ W).alloc hb.size _)
      ⟨hr.kept (fun hlt => Below.heap_alloc _ _ _ hlt), hb.alloc hb.size _⟩ ⟨W.heap.size, hb.size, World.alloc_heap_new W _, rfl⟩
    clear hK
    dsimp only [Ng.enc]
    gi_wp2
    exact hk
  case body =>
    rintro l pre x a' W hl ⟨r, hr⟩ ⟨hrow, hbel⟩ ⟨Bx, hBx, bX, rfl⟩ hlt
    obtain ⟨⟨xa, xk, xn, xg⟩, hx1, hx2, hx3, hx4⟩ := x
    dsimp only at hx1 hx2 hx3 hx4 bX ⊢
    obtain ⟨k, rfl⟩ := Int.eq_ofNat_of_zero_le hx1
    obtain ⟨j, rfl⟩ := Int.eq_ofNat_of_zero_le hx3
    have hmx : Try.prog.follows .mixedOrders = true := by kernel_rfl
    have hAn := hP.hA (by omega)
    rw [hAn] at h4
    have hN := askTo_nine h9 (pre.map (·.1))
    have hL := askTo_length ns (pre.map (·.1))
    obtain ⟨nd, hnd⟩ : ∃ nd, (askTo ns (pre.map (·.1)))[k]? = some nd := ⟨_, List.getElem?_eq_getElem (by omega)⟩
    have q0 : W.cell? ⟨w.heap.size, 0, none⟩ = some (.pointer (some ⟨P.p, 0, none⟩)) := (hbel.at_ (by omega) (by omega)).trans (blk_cell' k0 0)
    have q1 : W.cell? ⟨P.p, 4, none⟩ = some (.slice (some ⟨P.bn, 0, none⟩) ns.length P.nc) := (hbel.at_ (by omega) hpn).trans ((below_at hB1 hpl).trans h4)
    have q2 : W.cell? ⟨Bx, 2, none⟩ = some (.int .i64 k) := (blk_cell' bX 2).trans rfl
    have q3 : W.cell? ⟨Bx, 3, none⟩ = some (.int .i64 j) := (blk_cell' bX 3).trans rfl
    have q4 : W.cell? ⟨Bx, 1, none⟩ = some (.int .i64 xk) := (blk_cell' bX 1).trans rfl
    have q5 : W.cell? ⟨P.bn, k * 17 + 5, none⟩ = some (.int .i64 nd.asks) := (hrow.cell hN hnd 5 (by omega)).trans rfl
    have q6 : ∀ i, W.frozen? ⟨P.bn, i, none⟩ = false := fun i => hrow.frozen (by omega) i
    have q7 : Bx ≠ P.bn := by omega
    by_cases h2 : xk = 2
    · subst h2
      gi_wp2
      refine startR_ (n := 8) (S := fun w' => w'.cell? ⟨w.heap.size, 0, none⟩ = some (.pointer (some ⟨P.p, 0, none⟩)) ∧ w'.cell? ⟨P.p, 4, none⟩ = some (.slice (some ⟨P.bn, 0, none⟩) ns.length P.nc) ∧ w'.cell? ⟨Bx, 2, none⟩ = some (.int .i64 k)) (ds := []) #[false, false, false, false, false, false, false, false] (by kernel_rfl) rfl rfl (by kernel_rfl) (by rintro ⟨_, _, h⟩; exact h) ⟨q0, q1, q2⟩ (fun hHeld => ?_)
      refine pure_ (i := 4) (N := some 18) (v := ?_) (a' := ?_) #[false, false, false, false, true, false, false, false] rfl rfl (by kernel_rfl) (fun _ _ _ h => h) (Or.inl ⟨by rfl, ?_⟩) ?_ ?_
      rotate_left
      · intro w'
        go_simp
        with_reducible rfl
      rotate_left
      · simp only [Act.put, List.setIfInBounds_toArray, List.set_cons_zero, List.set_cons_succ, i64_w, i32_w]
        rfl
      refine take_ (i := 0) (N := some 14) (v := ?_) (a' := ?_) #[true, false, false, false, true, false, false, false] rfl rfl (by kernel_rfl) (fun _ _ _ h => h) (Or.inl ⟨by rfl, ?_⟩) hHeld ?_ ?_
      rotate_left
      · rintro w' ⟨s0, s1, s2⟩
        go_simp
        with_reducible rfl
      rotate_left
      · simp only [Act.put, List.setIfInBounds_toArray, List.set_cons_zero, List.set_cons_succ, i64_w, i32_w]
        rfl
      refine pure_ (i := 1) (N := some 15) (v := ?_) (a' := ?_) #[true, true, false, false, true, false, false, false] rfl rfl (by kernel_rfl) (fun _ _ _ h => h) (Or.inl ⟨by rfl, ?_⟩) ?_ ?_
      rotate_left
      · intro w'
        go_simp
        with_reducible rfl
      rotate_left
      · simp only [Act.put, List.setIfInBounds_toArray, List.set_cons_zero, List.set_cons_succ, i64_w, i32_w]
        rfl
      refine pure_ (i := 2) (N := some 16) (v := ?_) (a' := ?_) #[true, true, true, false, true, false, false, false] rfl rfl (by kernel_rfl) (fun _ _ _ h => h) (Or.inl ⟨by rfl, ?_⟩) ?_ ?_
      rotate_left
      · intro w'
        go_simp
        with_reducible rfl
      rotate_left
      · simp only [Act.put, List.setIfInBounds_toArray, List.set_cons_zero, List.set_cons_succ, i64_w, i32_w]
        rfl
      refine take_ (i := 3) (N := some 17) (v := ?_) (a' := ?_) #[true, true, true, true, true, false, false, false] rfl rfl (by kernel_rfl) (fun _ _ _ h => h) (Or.inl ⟨by rfl, ?_⟩) hHeld ?_ ?_
      rotate_left
      · rintro w' ⟨s0, s1, s2⟩
        go_simp
        with_reducible rfl
      rotate_left
      · simp only [Act.put, List.setIfInBounds_toArray, List.set_cons_zero, List.set_cons_succ, i64_w, i32_w]
        rfl
      refine take_ (i := 5) (N := some 19) (v := ?_) (a' := ?_) #[true, true, true, true, true, true, false, false] rfl rfl (by kernel_rfl) (fun _ _ _ h => h) (Or.inl ⟨by rfl, ?_⟩) hHeld ?_ ?_
      rotate_left
      · rintro w' ⟨s0, s1, s2⟩
        go_simp
        with_reducible rfl
      rotate_left
      · simp only [Act.put, List.setIfInBounds_toArray, List.set_cons_zero, List.set_cons_succ, i64_w, i32_w]
        rfl
      refine pure_ (i := 6) (N := some 20) (v := ?_) (a' := ?_) #[true, true, true, true, true, true, true, false] rfl rfl (by kernel_rfl) (fun _ _ _ h => h) (Or.inl ⟨by rfl, ?_⟩) ?_ ?_
      rotate_left
      · intro w'
        go_simp
        with_reducible rfl
      rotate_left
      · simp only [Act.put, List.setIfInBounds_toArray, List.set_cons_zero, List.set_cons_succ, i64_w, i32_w]
        rfl
      refine pure_ (i := 7) (N := some 6) (v := ?_) (a' := ?_) #[true, true, true, true, true, true, true, true] rfl rfl (by kernel_rfl) (fun _ _ _ h => h) (Or.inl ⟨by rfl, ?_⟩) ?_ ?_
      rotate_left
      · intro w'
        go_simp
        with_reducible rfl
      rotate_left
      · simp only [Act.put, List.setIfInBounds_toArray, List.set_cons_zero, List.set_cons_succ, i64_w, i32_w]
        rfl
      refine done_ (by kernel_rfl) ?_
      gi_wp2
      refine startR_ (n := 11) (S := fun w' => w'.cell? ⟨P.bn, k * 17 + 5, none⟩ = some (.int .i64 nd.asks) ∧ w'.cell? ⟨Bx, 3, none⟩ = some (.int .i64 j)) (ds := [10]) #[false, false, false, false, false, false, false, false, false, false, false] (by kernel_rfl) rfl rfl (by kernel_rfl) (by rintro ⟨_, _, h⟩; exact h) ⟨q5, q3⟩ (fun hHeld => ?_)
      refine pure_ (i := 0) (N := some 21) (v := ?_) (a' := ?_) #[true, false, false, false, false, false, false, false, false, false, false] rfl rfl (by kernel_rfl) (fun _ _ _ h => h) (Or.inl ⟨by rfl, ?_⟩) ?_ ?_
      rotate_left
      · intro w'
        go_simp
        with_reducible rfl
      rotate_left
      · simp only [Act.put, List.setIfInBounds_toArray, List.set_cons_zero, List.set_cons_succ, i64_w, i32_w]
        rfl
      refine pure_ (i := 1) (N := some 22) (v := ?_) (a' := ?_) #[true, true, false, false, false, false, false, false, false, false, false] rfl rfl (by kernel_rfl) (fun _ _ _ h => h) (Or.inl ⟨by rfl, ?_⟩) ?_ ?_
      rotate_left
      · intro w'
        go_simp
        with_reducible rfl
      rotate_left
      · simp only [Act.put, List.setIfInBounds_toArray, List.set_cons_zero, List.set_cons_succ, i64_w, i32_w]
        rfl
      refine pure_ (i := 2) (N := some 23) (v := ?_) (a' := ?_) #[true, true, true, false, false, false, false, false, false, false, false] rfl rfl (by kernel_rfl) (fun _ _ _ h => h) (Or.inl ⟨by rfl, ?_⟩) ?_ ?_
      rotate_left
      · intro w'
        go_simp
        with_reducible rfl
      rotate_left
      · simp only [Act.put, List.setIfInBounds_toArray, List.set_cons_zero, List.set_cons_succ, i64_w, i32_w]
        rfl
      refine pure_ (i := 4) (N := some 25) (v := ?_) (a' := ?_) #[true, true, true, false, true, false, false, false, false, false, false] rfl rfl (by kernel_rfl) (fun _ _ _ h => h) (Or.inl ⟨by rfl, ?_⟩) ?_ ?_
      rotate_left
      · intro w'
        go_simp
        with_reducible rfl
      rotate_left
      · simp only [Act.put, List.setIfInBounds_toArray, List.set_cons_zero, List.set_cons_succ, i64_w, i32_w]
        rfl
      refine take_ (i := 3) (N := some 24) (v := ?_) (a' := ?_) #[true, true, true, true, true, false, false, false, false, false, false] rfl rfl (by kernel_rfl) (fun _ _ _ h => h) (Or.inl ⟨by rfl, ?_⟩) hHeld ?_ ?_
      rotate_left
      · rintro w' ⟨s0, s1⟩
        go_simp
        with_reducible rfl
      rotate_left
      · simp only [Act.put, List.setIfInBounds_toArray, List.set_cons_zero, List.set_cons_succ, i64_w, i32_w]
        rfl
      refine take_ (i := 5) (N := some 26) (v := ?_) (a' := ?_) #[true, true, true, true, true, true, false, false, false, false, false] rfl rfl (by kernel_rfl) (fun _ _ _ h => h) (Or.inl ⟨by rfl, ?_⟩) hHeld ?_ ?_
      rotate_left
      · rintro w' ⟨s0, s1⟩
        go_simp
        with_reducible rfl
      rotate_left
      · simp only [Act.put, List.setIfInBounds_toArray, List.set_cons_zero, List.set_cons_succ, i64_w, i32_w]
        rfl
      refine pure_ (i := 6) (N := some 27) (v := ?_) (a' := ?_) #[true, true, true, true, true, true, true, false, false, false, false] rfl rfl (by kernel_rfl) (fun _ _ _ h => h) (Or.inl ⟨by rfl, ?_⟩) ?_ ?_
      rotate_left
      · intro w'
        go_simp
        with_reducible rfl
      rotate_left
      · simp only [Act.put, List.setIfInBounds_toArray, List.set_cons_zero, List.set_cons_succ, i64_w, i32_w]
        rfl
      refine pure_ (i := 7) (N := some 28) (v := ?_) (a' := ?_) #[true, true, true, true, true, true, true, true, false, false, false] rfl rfl (by kernel_rfl) (fun _ _ _ h => h) (Or.inl ⟨by rfl, ?_⟩) ?_ ?_
      rotate_left
      · intro w'
        go_simp
        with_reducible rfl
      rotate_left
      · simp only [Act.put, List.setIfInBounds_toArray, List.set_cons_zero, List.set_cons_succ, i64_w, i32_w]
        rfl
      refine pure_ (i := 8) (N := some 29) (v := ?_) (a' := ?_) #[true, true, true, true, true, true, true, true, true, false, false] rfl rfl (by kernel_rfl) (fun _ _ _ h => h) (Or.inl ⟨by rfl, ?_⟩) ?_ ?_
      rotate_left
      · intro w'
        go_simp
        with_reducible rfl
      rotate_left
      · simp only [Act.put, List.setIfInBounds_toArray, List.set_cons_zero, List.set_cons_succ, i64_w, i32_w]
        rfl
      refine pure_ (i := 9) (N := some 30) (v := ?_) (a' := ?_) #[true, true, true, true, true, true, true, true, true, true, false] rfl rfl (by kernel_rfl) (fun _ _ _ h => h) (Or.inl ⟨by rfl, ?_⟩) ?_ ?_
      rotate_left
      · intro w'
        go_simp
        with_reducible rfl
      rotate_left
      · simp only [Act.put, List.setIfInBounds_toArray, List.set_cons_zero, List.set_cons_succ, i64_w, i32_w]
        rfl
      refine last_ (i := 10) (N := none) #[true, true, true, true, true, true, true, true, true, true, true] rfl rfl (by kernel_rfl) (by decide) (fun K hK => ?_)
      refine skip_ (w1 := ?_) (by rfl) rfl ?_ ?_
      rotate_left
      · go_simp
        rfl
      refine hK.out _ _ ?_
      clear hK K
      refine done_ (by kernel_rfl) ?_
      gi_wp2
      have hs1 := hrow.store hN { nd with asks := Go.bits .or .i64 nd.asks (wrap64 (2 ^ j)) } hnd 5 (by omega) (.int .i64 (Go.bits .or .i64 nd.asks (wrap64 (2 ^ j)))) (nd.cells_asks _)
      have hN2 : Nine ((askTo ns (pre.map (·.1))).set k { nd with asks := Go.bits .or .i64 nd.asks (wrap64 (2 ^ j)) }) := hN.set k (by have := hN.get hnd; exact this)
      have hx2 : ((askTo ns (pre.map (·.1))).set k { nd with asks := Go.bits .or .i64 nd.asks (wrap64 (2 ^ j)) })[k]? = some { nd with asks := Go.bits .or .i64 nd.asks (wrap64 (2 ^ j)) } := List.getElem?_set_self (by omega)
      have hs2 := (hs1.1.drew.drew).store hN2 { nd with asks := Go.bits .andNot .i64 (Go.bits .or .i64 nd.asks (wrap64 (2 ^ j))) (wrap64 (2 ^ j)) } hx2 5 (by omega) (.int .i64 (Go.bits .andNot .i64 (Go.bits .or .i64 nd.asks (wrap64 (2 ^ j))) (wrap64 (2 ^ j)))) (Nd.cells_asks _ _)
      rw [List.set_set, askV_leave nd.asks xa k j hx4, askStep_at _ nd k xa 2 j hnd, ← askTo_snoc] at hs2
      have r1 : ((W.setCell ⟨P.bn, k * 17 + 5, none⟩ (.int .i64 (Go.bits .or .i64 nd.asks (wrap64 (2 ^ j))))).drew.drew).cell? ⟨P.bn, k * 17 + 5, none⟩ = some (.int .i64 (Go.bits .or .i64 nd.asks (wrap64 (2 ^ j)))) := (hs1.1.drew.drew.cell hN2 hx2 5 (by omega)).trans rfl
      have r2 : ((W.setCell ⟨P.bn, k * 17 + 5, none⟩ (.int .i64 (Go.bits .or .i64 nd.asks (wrap64 (2 ^ j))))).drew.drew).cell? ⟨Bx, 3, none⟩ = some (.int .i64 j) := ((((Bel.refl W.heap.size P.bn W).set (p := ⟨P.bn, k * 17 + 5, none⟩) (.inl rfl) _).drew.drew).at_ (blk_lt' bX) q7).trans q3
      have r3 : ∀ i, ((W.setCell ⟨P.bn, k * 17 + 5, none⟩ (.int .i64 (Go.bits .or .i64 nd.asks (wrap64 (2 ^ j))))).drew.drew).frozen? ⟨P.bn, i, none⟩ = false := fun i => hs1.1.drew.drew.frozen (by rw [List.length_set]; omega) i
      have hb2 := (((Bel.refl w1.heap.size P.bn W).set (p := ⟨P.bn, k * 17 + 5, none⟩) (.inl rfl) (.int .i64 (Go.bits .or .i64 nd.asks (wrap64 (2 ^ j))))).drew.drew).set (p := ⟨P.bn, k * 17 + 5, none⟩) (.inl rfl) (.int .i64 (askV nd.asks ⟨xa, 2, k, j⟩))
      have hk2 := ((KeepsOthers.setCell W ⟨P.bn, k * 17 + 5, none⟩ (.int .i64 (Go.bits .or .i64 nd.asks (wrap64 (2 ^ j))))).trans ((KeepsOthers.drew _).trans (KeepsOthers.drew _))).trans (KeepsOthers.setCell _ ⟨P.bn, k * 17 + 5, none⟩ (.int .i64 (askV nd.asks ⟨xa, 2, k, j⟩)))
      obtain ⟨W2, hW2⟩ : ∃ W2, (W.setCell ⟨P.bn, k * 17 + 5, none⟩ (.int .i64 (Go.bits .or .i64 nd.asks (wrap64 (2 ^ j))))).drew.drew = W2 := ⟨_, rfl⟩
      rw [hW2] at hs2 r1 r2 r3 hb2 hk2 ⊢
      obtain ⟨v1, hv1⟩ : ∃ v1, Go.bits .or .i64 nd.asks (wrap64 (2 ^ j)) = v1 := ⟨_, rfl⟩
      have hfin := askV_leave nd.asks xa k j hx4
      rw [hv1] at r1 hfin ⊢
      have HF := Lib.hid hfin
      have HS := Lib.hid hs2
      clear hfin hs1 hs2 q0 q1 q2 q3 q4 q5 q6 hv1 hW2
      refine startR_ (n := 11) (S := fun w' => w'.cell? ⟨P.bn, k * 17 + 5, none⟩ = some (.int .i64 v1) ∧ w'.cell? ⟨Bx, 3, none⟩ = some (.int .i64 j)) (ds := [10]) #[false, false, false, false, false, false, false, false, false, false, false] (by kernel_rfl) rfl rfl (by kernel_rfl) (by rintro ⟨_, _, h⟩; exact h) ⟨r1, r2⟩ (fun hHeld => ?_)
      refine pure_ (i := 0) (N := some 34) (v := ?_) (a' := ?_) #[true, false, false, false, false, false, false, false, false, false, false] rfl rfl (by kernel_rfl) (fun _ _ _ h => h) (Or.inl ⟨by rfl, ?_⟩) ?_ ?_
      rotate_left
      · intro w'
        go_simp
        with_reducible rfl
      rotate_left
      · simp only [Act.put, List.setIfInBounds_toArray, List.set_cons_zero, List.set_cons_succ, i64_w, i32_w]
        rfl
      refine pure_ (i := 1) (N := some 35) (v := ?_) (a' := ?_) #[true, true, false, false, false, false, false, false, false, false, false] rfl rfl (by kernel_rfl) (fun _ _ _ h => h) (Or.inl ⟨by rfl, ?_⟩) ?_ ?_
      rotate_left
      · intro w'
        go_simp
        with_reducible rfl
      rotate_left
      · simp only [Act.put, List.setIfInBounds_toArray, List.set_cons_zero, List.set_cons_succ, i64_w, i32_w]
        rfl
      refine pure_ (i := 2) (N := some 36) (v := ?_) (a' := ?_) #[true, true, true, false, false, false, false, false, false, false, false] rfl rfl (by kernel_rfl) (fun _ _ _ h => h) (Or.inl ⟨by rfl, ?_⟩) ?_ ?_
      rotate_left
      · intro w'
        go_simp
        with_reducible rfl
      rotate_left
      · simp only [Act.put, List.setIfInBounds_toArray, List.set_cons_zero, List.set_cons_succ, i64_w, i32_w]
        rfl
      refine pure_ (i := 4) (N := some 38) (v := ?_) (a' := ?_) #[true, true, true, false, true, false, false, false, false, false, false] rfl rfl (by kernel_rfl) (fun _ _ _ h => h) (Or.inl ⟨by rfl, ?_⟩) ?_ ?_
      rotate_left
      · intro w'
        go_simp
        with_reducible rfl
      rotate_left
      · simp only [Act.put, List.setIfInBounds_toArray, List.set_cons_zero, List.set_cons_succ, i64_w, i32_w]
        rfl
      refine take_ (i := 3) (N := some 37) (v := ?_) (a' := ?_) #[true, true, true, true, true, false, false, false, false, false, false] rfl rfl (by kernel_rfl) (fun _ _ _ h => h) (Or.inl ⟨by rfl, ?_⟩) hHeld ?_ ?_
      rotate_left
      · rintro w' ⟨s0, s1⟩
        go_simp
        with_reducible rfl
      rotate_left
      · simp only [Act.put, List.setIfInBounds_toArray, List.set_cons_zero, List.set_cons_succ, i64_w, i32_w]
        rfl
      refine take_ (i := 5) (N := some 39) (v := ?_) (a' := ?_) #[true, true, true, true, true, true, false, false, false, false, false] rfl rfl (by kernel_rfl) (fun _ _ _ h => h) (Or.inl ⟨by rfl, ?_⟩) hHeld ?_ ?_
      rotate_left
      · rintro w' ⟨s0, s1⟩
        go_simp
        with_reducible rfl
      rotate_left
      · simp only [Act.put, List.setIfInBounds_toArray, List.set_cons_zero, List.set_cons_succ, i64_w, i32_w]
        rfl
      refine pure_ (i := 6) (N := some 40) (v := ?_) (a' := ?_) #[true, true, true, true, true, true, true, false, false, false, false] rfl rfl (by kernel_rfl) (fun _ _ _ h => h) (Or.inl ⟨by rfl, ?_⟩) ?_ ?_
      rotate_left
      · intro w'
        go_simp
        with_reducible rfl
      rotate_left
      · simp only [Act.put, List.setIfInBounds_toArray, List.set_cons_zero, List.set_cons_succ, i64_w, i32_w]
        rfl
      refine pure_ (i := 7) (N := some 41) (v := ?_) (a' := ?_) #[true, true, true, true, true, true, true, true, false, false, false] rfl rfl (by kernel_rfl) (fun _ _ _ h => h) (Or.inl ⟨by rfl, ?_⟩) ?_ ?_
      rotate_left
      · intro w'
        go_simp
        with_reducible rfl
      rotate_left
      · simp only [Act.put, List.setIfInBounds_toArray, List.set_cons_zero, List.set_cons_succ, i64_w, i32_w]
        rfl
      refine pure_ (i := 8) (N := some 42) (v := ?_) (a' := ?_) #[true, true, true, true, true, true, true, true, true, false, false] rfl rfl (by kernel_rfl) (fun _ _ _ h => h) (Or.inl ⟨by rfl, ?_⟩) ?_ ?_
      rotate_left
      · intro w'
        go_simp
        with_reducible rfl
      rotate_left
      · simp only [Act.put, List.setIfInBounds_toArray, List.set_cons_zero, List.set_cons_succ, i64_w, i32_w]
        rfl
      refine pure_ (i := 9) (N := some 43) (v := ?_) (a' := ?_) #[true, true, true, true, true, true, true, true, true, true, false] rfl rfl (by kernel_rfl) (fun _ _ _ h => h) (Or.inl ⟨by rfl, ?_⟩) ?_ ?_
      rotate_left
      · intro w'
        go_simp
        with_reducible rfl
      rotate_left
      · simp only [Act.put, List.setIfInBounds_toArray, List.set_cons_zero, List.set_cons_succ, i64_w, i32_w]
        rfl
      refine last_ (i := 10) (N := none) #[true, true, true, true, true, true, true, true, true, true, true] rfl rfl (by kernel_rfl) (by decide) (fun K hK => ?_)
      refine skip_ (w1 := ?_) (by rfl) rfl ?_ ?_
      rotate_left
      · go_simp
        rfl
      refine hK.out _ _ ?_
      clear hK K
      refine done_ (by kernel_rfl) ?_
      gi_wp2
      rw [HF.out]
      exact ⟨(hk2.trans (KeepsOthers.drew _)).from _, hb2.drew, by rw [List.map_append]; exact HS.out.1.drew, hbel.trans hb2.drew⟩
    · have h2' : (xk == 2) = false := by simpa using h2
      have H2 := Lib.hid h2
      clear h2
      gi_wp2
      refine startR_ (n := 8) (S := fun w' => w'.cell? ⟨w.heap.size, 0, none⟩ = some (.pointer (some ⟨P.p, 0, none⟩)) ∧ w'.cell? ⟨P.p, 4, none⟩ = some (.slice (some ⟨P.bn, 0, none⟩) ns.length P.nc) ∧ w'.cell? ⟨Bx, 2, none⟩ = some (.int .i64 k)) (ds := []) #[false, false, false, false, false, false, false, false] (by kernel_rfl) rfl rfl (by kernel_rfl) (by rintro ⟨_, _, h⟩; exact h) ⟨q0, q1, q2⟩ (fun hHeld => ?_)
      refine pure_ (i := 4) (N := some 18) (v := ?_) (a' := ?_) #[false, false, false, false, true, false, false, false] rfl rfl (by kernel_rfl) (fun _ _ _ h => h) (Or.inl ⟨by rfl, ?_⟩) ?_ ?_
      rotate_left
      · intro w'
        go_simp
        with_reducible rfl
      rotate_left
      · simp only [Act.put, List.setIfInBounds_toArray, List.set_cons_zero, List.set_cons_succ, i64_w, i32_w]
        rfl
      refine take_ (i := 0) (N := some 14) (v := ?_) (a' := ?_) #[true, false, false, false, true, false, false, false] rfl rfl (by kernel_rfl) (fun _ _ _ h => h) (Or.inl ⟨by rfl, ?_⟩) hHeld ?_ ?_
      rotate_left
      · rintro w' ⟨s0, s1, s2⟩
        go_simp
        with_reducible rfl
      rotate_left
      · simp only [Act.put, List.setIfInBounds_toArray, List.set_cons_zero, List.set_cons_succ, i64_w, i32_w]
        rfl
      refine pure_ (i := 1) (N := some 15) (v := ?_) (a' := ?_) #[true, true, false, false, true, false, false, false] rfl rfl (by kernel_rfl) (fun _ _ _ h => h) (Or.inl ⟨by rfl, ?_⟩) ?_ ?_
      rotate_left
      · intro w'
        go_simp
        with_reducible rfl
      rotate_left
      · simp only [Act.put, List.setIfInBounds_toArray, List.set_cons_zero, List.set_cons_succ, i64_w, i32_w]
        rfl
      refine pure_ (i := 2) (N := some 16) (v := ?_) (a' := ?_) #[true, true, true, false, true, false, false, false] rfl rfl (by kernel_rfl) (fun _ _ _ h => h) (Or.inl ⟨by rfl, ?_⟩) ?_ ?_
      rotate_left
      · intro w'
        go_simp
        with_reducible rfl
      rotate_left
      · simp only [Act.put, List.setIfInBounds_toArray, List.set_cons_zero, List.set_cons_succ, i64_w, i32_w]
        rfl
      refine take_ (i := 3) (N := some 17) (v := ?_) (a' := ?_) #[true, true, true, true, true, false, false, false] rfl rfl (by kernel_rfl) (fun _ _ _ h => h) (Or.inl ⟨by rfl, ?_⟩) hHeld ?_ ?_
      rotate_left
      · rintro w' ⟨s0, s1, s2⟩
        go_simp
        with_reducible rfl
      rotate_left
      · simp only [Act.put, List.setIfInBounds_toArray, List.set_cons_zero, List.set_cons_succ, i64_w, i32_w]
        rfl
      refine take_ (i := 5) (N := some 19) (v := ?_) (a' := ?_) #[true, true, true, true, true, true, false, false] rfl rfl (by kernel_rfl) (fun _ _ _ h => h) (Or.inl ⟨by rfl, ?_⟩) hHeld ?_ ?_
      rotate_left
      · rintro w' ⟨s0, s1, s2⟩
        go_simp
        with_reducible rfl
      rotate_left
      · simp only [Act.put, List.setIfInBounds_toArray, List.set_cons_zero, List.set_cons_succ, i64_w, i32_w]
        rfl
      refine pure_ (i := 6) (N := some 20) (v := ?_) (a' := ?_) #[true, true, true, true, true, true, true, false] rfl rfl (by kernel_rfl) (fun _ _ _ h => h) (Or.inl ⟨by rfl, ?_⟩) ?_ ?_
      rotate_left
      · intro w'
        go_simp
        with_reducible rfl
      rotate_left
      · simp only [Act.put, List.setIfInBounds_toArray, List.set_cons_zero, List.set_cons_succ, i64_w, i32_w]
        rfl
      refine pure_ (i := 7) (N := some 6) (v := ?_) (a' := ?_) #[true, true, true, true, true, true, true, true] rfl rfl (by kernel_rfl) (fun _ _ _ h => h) (Or.inl ⟨by rfl, ?_⟩) ?_ ?_
      rotate_left
      · intro w'
        go_simp
        with_reducible rfl
      rotate_left
      · simp only [Act.put, List.setIfInBounds_toArray, List.set_cons_zero, List.set_cons_succ, i64_w, i32_w]
        rfl
      refine done_ (by kernel_rfl) ?_
      gi_wp2
      refine startR_ (n := 11) (S := fun w' => w'.cell? ⟨P.bn, k * 17 + 5, none⟩ = some (.int .i64 nd.asks) ∧ w'.cell? ⟨Bx, 3, none⟩ = some (.int .i64 j)) (ds := [10]) #[false, false, false, false, false, false, false, false, false, false, false] (by kernel_rfl) rfl rfl (by kernel_rfl) (by rintro ⟨_, _, h⟩; exact h) ⟨q5, q3⟩ (fun hHeld => ?_)
      refine pure_ (i := 0) (N := some 21) (v := ?_) (a' := ?_) #[true, false, false, false, false, false, false, false, false, false, false] rfl rfl (by kernel_rfl) (fun _ _ _ h => h) (Or.inl ⟨by rfl, ?_⟩) ?_ ?_
      rotate_left
      · intro w'
        go_simp
        with_reducible rfl
      rotate_left
      · simp only [Act.put, List.setIfInBounds_toArray, List.set_cons_zero, List.set_cons_succ, i64_w, i32_w]
        rfl
      refine pure_ (i := 1) (N := some 22) (v := ?_) (a' := ?_) #[true, true, false, false, false, false, false, false, false, false, false] rfl rfl (by kernel_rfl) (fun _ _ _ h => h) (Or.inl ⟨by rfl, ?_⟩) ?_ ?_
      rotate_left
      · intro w'
        go_simp
        with_reducible rfl
      rotate_left
      · simp only [Act.put, List.setIfInBounds_toArray, List.set_cons_zero, List.set_cons_succ, i64_w, i32_w]
        rfl
      refine pure_ (i := 2) (N := some 23) (v := ?_) (a' := ?_) #[true, true, true, false, false, false, false, false, false, false, false] rfl rfl (by kernel_rfl) (fun _ _ _ h => h) (Or.inl ⟨by rfl, ?_⟩) ?_ ?_
      rotate_left
      · intro w'
        go_simp
        with_reducible rfl
      rotate_left
      · simp only [Act.put, List.setIfInBounds_toArray, List.set_cons_zero, List.set_cons_succ, i64_w, i32_w]
        rfl
      refine pure_ (i := 4) (N := some 25) (v := ?_) (a' := ?_) #[true, true, true, false, true, false, false, false, false, false, false] rfl rfl (by kernel_rfl) (fun _ _ _ h => h) (Or.inl ⟨by rfl, ?_⟩) ?_ ?_
      rotate_left
      · intro w'
        go_simp
        with_reducible rfl
      rotate_left
      · simp only [Act.put, List.setIfInBounds_toArray, List.set_cons_zero, List.set_cons_succ, i64_w, i32_w]
        rfl
      refine take_ (i := 3) (N := some 24) (v := ?_) (a' := ?_) #[true, true, true, true, true, false, false, false, false, false, false] rfl rfl (by kernel_rfl) (fun _ _ _ h => h) (Or.inl ⟨by rfl, ?_⟩) hHeld ?_ ?_
      rotate_left
      · rintro w' ⟨s0, s1⟩
        go_simp
        with_reducible rfl
      rotate_left
      · simp only [Act.put, List.setIfInBounds_toArray, List.set_cons_zero, List.set_cons_succ, i64_w, i32_w]
        rfl
      refine take_ (i := 5) (N := some 26) (v := ?_) (a' := ?_) #[true, true, true, true, true, true, false, false, false, false, false] rfl rfl (by kernel_rfl) (fun _ _ _ h => h) (Or.inl ⟨by rfl, ?_⟩) hHeld ?_ ?_
      rotate_left
      · rintro w' ⟨s0, s1⟩
        go_simp
        with_reducible rfl
      rotate_left
      · simp only [Act.put, List.setIfInBounds_toArray, List.set_cons_zero, List.set_cons_succ, i64_w, i32_w]
        rfl
      refine pure_ (i := 6) (N := some 27) (v := ?_) (a' := ?_) #[true, true, true, true, true, true, true, false, false, false, false] rfl rfl (by kernel_rfl) (fun _ _ _ h => h) (Or.inl ⟨by rfl, ?_⟩) ?_ ?_
      rotate_left
      · intro w'
        go_simp
        with_reducible rfl
      rotate_left
      · simp only [Act.put, List.setIfInBounds_toArray, List.set_cons_zero, List.set_cons_succ, i64_w, i32_w]
        rfl
      refine pure_ (i := 7) (N := some 28) (v := ?_) (a' := ?_) #[true, true, true, true, true, true, true, true, false, false, false] rfl rfl (by kernel_rfl) (fun _ _ _ h => h) (Or.inl ⟨by rfl, ?_⟩) ?_ ?_
      rotate_left
      · intro w'
        go_simp
        with_reducible rfl
      rotate_left
      · simp only [Act.put, List.setIfInBounds_toArray, List.set_cons_zero, List.set_cons_succ, i64_w, i32_w]
        rfl
      refine pure_ (i := 8) (N := some 29) (v := ?_) (a' := ?_) #[true, true, true, true, true, true, true, true, true, false, false] rfl rfl (by kernel_rfl) (fun _ _ _ h => h) (Or.inl ⟨by rfl, ?_⟩) ?_ ?_
      rotate_left
      · intro w'
        go_simp
        with_reducible rfl
      rotate_left
      · simp only [Act.put, List.setIfInBounds_toArray, List.set_cons_zero, List.set_cons_succ, i64_w, i32_w]
        rfl
      refine pure_ (i := 9) (N := some 30) (v := ?_) (a' := ?_) #[true, true, true, true, true, true, true, true, true, true, false] rfl rfl (by kernel_rfl) (fun _ _ _ h => h) (Or.inl ⟨by rfl, ?_⟩) ?_ ?_
      rotate_left
      · intro w'
        go_simp
        with_reducible rfl
      rotate_left
      · simp only [Act.put, List.setIfInBounds_toArray, List.set_cons_zero, List.set_cons_succ, i64_w, i32_w]
        rfl
      refine last_ (i := 10) (N := none) #[true, true, true, true, true, true, true, true, true, true, true] rfl rfl (by kernel_rfl) (by decide) (fun K hK => ?_)
      refine skip_ (w1 := ?_) (by rfl) rfl ?_ ?_
      rotate_left
      · go_simp
        rfl
      refine hK.out _ _ ?_
      clear hK K
      refine done_ (by kernel_rfl) ?_
      gi_wp2
      have hs1 := hrow.store hN { nd with asks := askV nd.asks ⟨xa, xk, k, j⟩ } hnd 5 (by omega) (.int .i64 (askV nd.asks ⟨xa, xk, k, j⟩)) (nd.cells_asks _)
      rw [askStep_at _ nd k xa xk j hnd, ← askTo_snoc] at hs1
      rw [askV_ask nd.asks xa xk k j hx4 H2.out]
      have hb2 := (((Bel.refl w1.heap.size P.bn W).set (p := ⟨P.bn, k * 17 + 5, none⟩) (.inl rfl) (.int .i64 (askV nd.asks ⟨xa, xk, k, j⟩))).drew.drew)
      exact ⟨((KeepsOthers.setCell W ⟨P.bn, k * 17 + 5, none⟩ _).trans ((KeepsOthers.drew _).trans (KeepsOthers.drew _))).from _, hb2, by rw [List.map_append]; exact hs1.1.drew.drew, hbel.trans hb2⟩
  case done =>
    rintro D xs W hD hxs ⟨hrow, hbel⟩ hK
    rw [hxs] at hrow
    have hfil : ngTo tick [1, 2] P.ls P.ls.length = P.ls.filter (ngSel tick [1, 2]) := by simp [ngTo]
    rw [hfil] at hrow
    obtain ⟨ns', hns'⟩ : ∃ ns', askTo ns (P.ls.filter (ngSel tick [1, 2])) = ns' := ⟨_, rfl⟩
    have hN := askTo_nine h9 (P.ls.filter (ngSel tick [1, 2]))
    have hL := askTo_length ns (P.ls.filter (ngSel tick [1, 2]))
    rw [hns'] at hrow hN hL
    have q0 : W.cell? ⟨w.heap.size, 0, none⟩ = some (.pointer (some ⟨P.p, 0, none⟩)) := (hbel.at_ (by omega) (by omega)).trans (blk_cell' k0 0)
    have q1 : W.cell? ⟨P.p, 4, none⟩ = some (.slice P.An ns.length P.nc) := (hbel.at_ (by omega) hpn).trans ((below_at hB1 hpl).trans h4)
    have HL := Lib.hid hL
    have HNS := Lib.hid hns'
    have HX := Lib.hid hxs
    have HW := Lib.hid hs1
    have HF := Lib.hid hfil
    clear hL hns' hxs hs1 hfil h3 h4
    go_wp2
    go_loopw [4, 49] (fun s i wr => ∃ k : Nat, k ≤ ns.length ∧ s = .int .i64 (orTo ns' k) ∧ i = .int .i64 k ∧ Below W.heap.size W wr) (fun _ i _ => ns.length - (intOf i).toNat)
    case atStart => exact ⟨0, Nat.zero_le _, rfl, rfl, Below.refl _ _⟩
    case round =>
      obtain ⟨k, hk, rfl, rfl, hB⟩ := hrel
      by_cases hlt : k < ns.length
      · have hAn := hP.hA (by omega)
        rw [hAn]
        obtain ⟨nd, hnd⟩ : ∃ nd, ns'[k]? = some nd := ⟨_, List.getElem?_eq_getElem (by rw [HL.out]; omega)⟩
        have hrow2 : NdRow wr P.bn P.nc ns' := hrow.kept (fun hlt => hB.block _ hlt)
        have ht := hN.get hnd
        have Hc : Hid (∀ j v, nd.cells[j]? = some v → wr.cell? ((⟨P.bn, k * 17, none⟩ : Addr).add j) = some v) := by
          intro j v hj
          have := (List.getElem?_eq_some_iff.1 hj).1
          rw [nd.cells_length ht] at this
          rw [add_off, hrow2.cell hN hnd j (by omega)]
          exact hj
        have hc5 : nd.cells[5]? = some (.int .i64 nd.asks) := rfl
        have HND := Lib.hid hnd
        clear hnd
        go_wp2_with (first | ((with_reducible refine gate_dst (N := 52) rfl ?_); refine wpList_load_list rfl 68 _ rfl ⟨P.bn, k * 17, none⟩ rfl nd.cells 17 (nd.cells_length ht) _ Try.underlying68 rfl size68 Hc.out ?_) | ((with_reducible refine gate_store (t := 68) (p := 8) rfl ?_); refine wpList_store_new rfl 68 _ _ rfl wr _ nd.cells.toArray rfl rfl rfl (by rw [size68]; simp [nd.cells_length ht]) (by simp [nd.cells_length ht]) nd.cells_one ?_))
        exact ⟨⟨k + 1, by omega, by rw [orTo, HND.out]; rfl, by simp, hB.alloc hB.size _⟩, by simp [intOf]; omega⟩
      · obtain rfl : k = ns.length := by omega
        have hK2 : wr.heap[D]? = some (.deferred (some [])) := (hB.block D (blk_lt' hK)).trans hK
        go_wp2
        refine ⟨by simp, .inl ⟨_, _, rfl, run_takeDeferred hK2, ?_⟩⟩
        refine ⟨_, results_tmp rfl _ _ _, ?_, ?_, ?_⟩
        · rw [HNS.out]; rfl
        · have e1 : Bel w.heap.size P.bn w w1 := Bel.of_below hB1
          have e2 : Bel w.heap.size P.bn w1 W := hbel.mono hB1.size
          have e3 : Bel w.heap.size P.bn W wr := (Bel.of_below hB).mono (Nat.le_trans hB1.size hbel.size)
          exact (((e1.trans e2).trans e3).put (Nat.le_trans hB1.size hD) _).grown
        · rw [HNS.out]
          refine hrow.kept (fun hlt => ?_)
          rw [World.putObj_heap_other (by have := hB1.size; omega)]
          exact hB.block _ hlt
  case stop =>
    rintro D c pre W _ _ h _
    exact h.elim
end Go.Proofs.Ytiglkpgoakibaab
