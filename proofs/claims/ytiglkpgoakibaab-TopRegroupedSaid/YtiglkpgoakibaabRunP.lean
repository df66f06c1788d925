/- All ticks of a play, on nodes as a list: what is asked for, who is awake. Plain lists. No condition. -/
import Derived.Test.YtiglkpgoakibaabSendP
import Derived.Test.YtiglkpgoakibaabAsk
namespace Go.Proofs.Ytiglkpgoakibaab
open Go.RowKit PTopRegrouped

def tk1 (ls : List Ng) (t : Int) (ns : List Nd) : List Nd := askTo ns (ls.filter (ngSel t [1, 2]))
def tk2 (H : Int) (ls : List Ng) (t : Int) (ns : List Nd) : List Nd := noiTo H (ns.map (refNd t)) (ls.filter (ngSel t [3]))
def tk3 (H : Int) (G : Nat) (ls : List Ng) (t : Int) (ns : List Nd) : List Nd := sendTo (lostTo (ls.filter (ngSel t [4]))) H G ns ns.length
def tick (H : Int) (G : Nat) (ls : List Ng) (t : Int) (ns : List Nd) : List Nd := (tk3 H G ls t (tk2 H ls t (tk1 ls t ns))).map passNd
/-- The nodes before tick k. -/
def runNs (H : Int) (G : Nat) (ls : List Ng) (ns : List Nd) : Nat → List Nd
  | 0 => ns
  | k + 1 => tick H G ls k (runNs H G ls ns k)
def askedAt (H : Int) (G : Nat) (ls : List Ng) (ns : List Nd) (k : Nat) : Int := orTo (tk1 ls k (runNs H G ls ns k)) ns.length
def rowAt (H : Int) (G : Nat) (ls : List Ng) (ns : List Nd) (k : Nat) : Int := rowTo (tk3 H G ls k (tk2 H ls k (tk1 ls k (runNs H G ls ns k)))) ns.length
def askedL (H : Int) (G : Nat) (ls : List Ng) (ns : List Nd) (k : Nat) : List Int := (List.range k).map (askedAt H G ls ns)
def rowsL (H : Int) (G : Nat) (ls : List Ng) (ns : List Nd) (k : Nat) : List Int := (List.range k).map (rowAt H G ls ns)
theorem askedL_succ (H : Int) (G : Nat) (ls : List Ng) (ns : List Nd) (k : Nat) : askedL H G ls ns (k + 1) = askedL H G ls ns k ++ [askedAt H G ls ns k] := by simp [askedL, List.range_succ]
theorem rowsL_succ (H : Int) (G : Nat) (ls : List Ng) (ns : List Nd) (k : Nat) : rowsL H G ls ns (k + 1) = rowsL H G ls ns k ++ [rowAt H G ls ns k] := by simp [rowsL, List.range_succ]
theorem askedL_length (H : Int) (G : Nat) (ls : List Ng) (ns : List Nd) (k : Nat) : (askedL H G ls ns k).length = k := by simp [askedL]
theorem rowsL_length (H : Int) (G : Nat) (ls : List Ng) (ns : List Nd) (k : Nat) : (rowsL H G ls ns k).length = k := by simp [rowsL]

theorem tk1_length (ls : List Ng) (t : Int) (ns : List Nd) : (tk1 ls t ns).length = ns.length := askTo_length _ _
theorem tk2_length (H : Int) (ls : List Ng) (t : Int) (ns : List Nd) : (tk2 H ls t ns).length = ns.length := by rw [tk2, noiTo_length, List.length_map]
theorem tk3_length (H : Int) (G : Nat) (ls : List Ng) (t : Int) (ns : List Nd) : (tk3 H G ls t ns).length = ns.length := sendTo_length _ _ _ _ _
theorem tick_length (H : Int) (G : Nat) (ls : List Ng) (t : Int) (ns : List Nd) : (tick H G ls t ns).length = ns.length := by
  rw [tick, List.length_map, tk3_length, tk2_length, tk1_length]
theorem runNs_length (H : Int) (G : Nat) (ls : List Ng) (ns : List Nd) (k : Nat) : (runNs H G ls ns k).length = ns.length := by
  induction k with
  | zero => rfl
  | succ k ih => rw [runNs, tick_length, ih]

/-- What every node keeps to. -/
structure NdOk (x : Nd) : Prop where
  nine : x.tm.length = 9
  tm : ∀ t ∈ x.tm, t ≤ 100
  b : NdB x
def AllOk (ns : List Nd) : Prop := ∀ x ∈ ns, NdOk x
theorem AllOk.nine {ns : List Nd} (h : AllOk ns) : Nine ns := fun x hx => (h x hx).nine
theorem AllOk.bd {ns : List Nd} (h : AllOk ns) : ∀ x ∈ ns, NdB x := fun x hx => (h x hx).b
theorem AllOk.tms {ns : List Nd} (h : AllOk ns) : ∀ x ∈ ns, ∀ t ∈ x.tm, t ≤ 100 := fun x hx => (h x hx).tm
theorem AllOk.set {ns : List Nd} (h : AllOk ns) (k : Nat) {x : Nd} (hx : NdOk x) : AllOk (ns.set k x) := fun y hy => by
  rcases List.mem_or_eq_of_mem_set hy with hy | rfl
  · exact h y hy
  · exact hx
theorem AllOk.map {ns : List Nd} (h : AllOk ns) {f : Nd → Nd} (hf : ∀ x, NdOk x → NdOk (f x)) : AllOk (ns.map f) := fun y hy => by
  obtain ⟨x, hx, rfl⟩ := List.mem_map.1 hy
  exact hf x (h x hx)
theorem mem_set_le {l : List Int} {k : Nat} {v m : Int} (h : ∀ t ∈ l, t ≤ m) (hv : v ≤ m) : ∀ t ∈ l.set k v, t ≤ m := fun t ht => by
  rcases List.mem_or_eq_of_mem_set ht with ht | rfl
  · exact h t ht
  · exact hv
theorem refNd_ok (t : Int) (x : Nd) (h : NdOk x) : NdOk (refNd t x) := ⟨refNd_nine t x h.nine, by unfold refNd; split <;> exact h.tm, refNd_b t h.b⟩
theorem noiNd_ok {H : Int} (hH : H ≤ 100) (x : Nd) (h : NdOk x) : NdOk (noiNd H x) := ⟨noiNd_nine H x h.nine, by
  unfold noiNd
  split
  · exact mem_set_le h.tm hH
  · exact h.tm, noiNd_b H h.b⟩
theorem passNd_ok (x : Nd) (h : NdOk x) : NdOk (passNd x) := ⟨by simpa [passNd] using h.nine, fun t ht => by
  obtain ⟨s, hs, rfl⟩ := List.mem_map.1 ht
  have := h.tm s hs
  unfold decT
  split <;> omega, ⟨h.b.re0, h.b.re1, h.b.bu0, h.b.bu1, h.b.tok0, h.b.tok1⟩⟩
theorem askStep_ok {ns : List Nd} (h : AllOk ns) (x : Ng) : AllOk (askStep ns x) := by
  unfold askStep
  split
  · rename_i nd hnd
    have hn := h nd (List.mem_of_getElem? hnd)
    exact h.set _ ⟨hn.nine, hn.tm, ⟨hn.b.re0, hn.b.re1, hn.b.bu0, hn.b.bu1, hn.b.tok0, hn.b.tok1⟩⟩
  · exact h
theorem askTo_ok {ns : List Nd} (h : AllOk ns) (xs : List Ng) : AllOk (askTo ns xs) := by
  induction xs generalizing ns with
  | nil => exact h
  | cons x xs ih => exact ih (askStep_ok h x)
theorem noiTo_ok {H : Int} (hH : H ≤ 100) {ns : List Nd} (h : AllOk ns) (xs : List Ng) : AllOk (noiTo H ns xs) := by
  induction xs generalizing ns with
  | nil => exact h
  | cons x xs ih =>
    refine ih (ns := noiStep H ns x) ?_
    unfold noiStep
    split
    · rename_i nd hnd
      exact h.set _ (noiNd_ok hH nd (h nd (List.mem_of_getElem? hnd)))
    · exact h
theorem sendG_ok (l : Bool) {H : Int} (hH : H ≤ 100) (a : Int) (x : Nd) (h : NdOk x) (k : Nat) : NdOk (sendG l H a x k) := by
  induction k with
  | zero => exact h
  | succ k ih =>
    unfold sendG
    split
    · exact ⟨by simpa using ih.nine, mem_set_le ih.tm hH, ⟨ih.b.re0, ih.b.re1, ih.b.bu0, ih.b.bu1, ih.b.tok0, ih.b.tok1⟩⟩
    · exact ih
theorem rowTo'_ok (lo : List Bool) {H : Int} (hH : H ≤ 100) (a : Int) (G fr : Nat) {ns : List Nd} (h : AllOk ns) (k : Nat) : AllOk (rowTo' lo H a G fr ns k) := by
  induction k with
  | zero => exact h
  | succ k ih =>
    unfold rowTo'
    split
    · rename_i x hx
      exact ih.set _ (sendG_ok _ hH _ _ (ih x (List.mem_of_getElem? hx)) _)
    · exact ih
theorem sendTo_ok (lo : List Bool) {H : Int} (hH : H ≤ 100) (G : Nat) {ns : List Nd} (h : AllOk ns) (k : Nat) : AllOk (sendTo lo H G ns k) := by
  induction k with
  | zero => exact h
  | succ k ih =>
    unfold sendTo
    split
    · exact rowTo'_ok _ hH _ _ _ ih _
    · exact ih
theorem tk1_ok {ns : List Nd} (h : AllOk ns) (ls : List Ng) (t : Int) : AllOk (tk1 ls t ns) := askTo_ok h _
theorem tk2_ok {H : Int} (hH : H ≤ 100) {ns : List Nd} (h : AllOk ns) (ls : List Ng) (t : Int) : AllOk (tk2 H ls t ns) := noiTo_ok hH (h.map (refNd_ok t)) _
theorem tk3_ok {H : Int} (hH : H ≤ 100) (G : Nat) {ns : List Nd} (h : AllOk ns) (ls : List Ng) (t : Int) : AllOk (tk3 H G ls t ns) := sendTo_ok _ hH _ h _
theorem tick_ok {H : Int} (hH : H ≤ 100) (G : Nat) {ns : List Nd} (h : AllOk ns) (ls : List Ng) (t : Int) : AllOk (tick H G ls t ns) := (tk3_ok hH G (tk2_ok hH (tk1_ok h ls t) ls t) ls t).map passNd_ok
theorem runNs_ok {H : Int} (hH : H ≤ 100) (G : Nat) {ns : List Nd} (h : AllOk ns) (ls : List Ng) (k : Nat) : AllOk (runNs H G ls ns k) := by
  induction k with
  | zero => exact h
  | succ k ih => exact tick_ok hH G ih ls k

/-- A nudge as it must be. -/
structure NgOk (n : Nat) (x : Ng) : Prop where
  n0 : 0 ≤ x.node
  n1 : x.node < n
  ask : x.kind = 1 ∨ x.kind = 2 → 0 ≤ x.arg ∧ x.arg ≤ 7
  loss : x.kind = 4 → 0 ≤ x.arg ∧ x.arg < n
theorem NgOk.askOk {n : Nat} {x : Ng} (h : NgOk n x) {t : Int} (hs : ngSel t [1, 2] x = true) : AskOk n x := by
  have : x.kind = 1 ∨ x.kind = 2 := by simp [ngSel] at hs; exact hs.2
  exact ⟨h.n0, h.n1, (h.ask this).1, (h.ask this).2⟩
theorem NgOk.noiOk {n : Nat} {x : Ng} (h : NgOk n x) : NoiOk n x := ⟨h.n0, h.n1⟩
theorem NgOk.lossOk {n : Nat} {x : Ng} (h : NgOk n x) {t : Int} (hs : ngSel t [4] x = true) : LossOk n x := by
  have : x.kind = 4 := by simp [ngSel] at hs; exact hs.2
  exact ⟨h.n0, h.n1, (h.loss this).1, (h.loss this).2⟩
end Go.Proofs.Ytiglkpgoakibaab
