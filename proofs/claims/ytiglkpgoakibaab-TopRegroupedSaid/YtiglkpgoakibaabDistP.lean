/- Tokens and noise, on nodes as a list. Plain lists. No condition. -/
import Derived.Test.YtiglkpgoakibaabPlay
namespace Go.Proofs.Ytiglkpgoakibaab
open Go.RowKit PTopRegrouped

/-- The first k nodes are turned. -/
def mapTo (f : Nd → Nd) (ns : List Nd) (k : Nat) : List Nd := (ns.take k).map f ++ ns.drop k
theorem mapTo_length (f : Nd → Nd) (ns : List Nd) (k : Nat) : (mapTo f ns k).length = ns.length := by simp [mapTo]; omega
theorem mapTo_get (f : Nd → Nd) (ns : List Nd) (k : Nat) (x : Nd) (h : ns[k]? = some x) : (mapTo f ns k)[k]? = some x := by
  have hk := (List.getElem?_eq_some_iff.1 h).1
  unfold mapTo
  rw [List.getElem?_append_right (by simp; omega), List.getElem?_drop]
  simp only [List.length_map, List.length_take]
  rw [← h]
  congr 1
  omega
theorem mapTo_succ (f : Nd → Nd) (ns : List Nd) (k : Nat) (x : Nd) (h : ns[k]? = some x) : (mapTo f ns k).set k (f x) = mapTo f ns (k + 1) := by
  have hk := (List.getElem?_eq_some_iff.1 h).1
  unfold mapTo
  rw [take_succ' _ _ _ h, drop_cons' _ _ _ h, List.set_append_right _ _ (by simp; omega)]
  simp only [List.length_map, List.length_take]
  have : k - min k ns.length = 0 := by omega
  simp [this]
theorem mapTo_nine {f : Nd → Nd} (hf : ∀ x, x.tm.length = 9 → (f x).tm.length = 9) {ns : List Nd} (h : Nine ns) (k : Nat) : Nine (mapTo f ns k) := by
  intro y hy
  unfold mapTo at hy
  rcases List.mem_append.1 hy with hy | hy
  · obtain ⟨z, hz, rfl⟩ := List.mem_map.1 hy
    exact hf z (h z (List.mem_of_mem_take hz))
  · exact h y (List.mem_of_mem_drop hy)
theorem mapTo_zero (f : Nd → Nd) (ns : List Nd) : mapTo f ns 0 = ns := by simp [mapTo]
theorem mapTo_all (f : Nd → Nd) (ns : List Nd) : mapTo f ns ns.length = ns.map f := by simp [mapTo]
theorem map_nine {f : Nd → Nd} (hf : ∀ x, x.tm.length = 9 → (f x).tm.length = 9) {ns : List Nd} (h : Nine ns) : Nine (ns.map f) := by
  rw [← mapTo_all]
  exact mapTo_nine hf h _

/-- A node at the beginning of a tick: a token comes. -/
def refNd (tick : Int) (x : Nd) : Nd := if 0 < tick ∧ tick % x.s.f4 = 0 then { x with tok := min (x.tok + 1) x.s.f3 } else x
theorem refNd_nine (tick : Int) (x : Nd) (h : x.tm.length = 9) : (refNd tick x).tm.length = 9 := by
  unfold refNd
  split <;> exact h
/-- Noise wakes a node, if it sleeps and has a token. -/
def noiNd (H : Int) (x : Nd) : Nd := if x.aw = false ∧ 0 < x.tok ∧ x.tm.getD 8 0 = 0 then { x with tok := x.tok - 1, tm := x.tm.set 8 H } else x
theorem noiNd_nine (H : Int) (x : Nd) (h : x.tm.length = 9) : (noiNd H x).tm.length = 9 := by
  unfold noiNd
  split
  · simpa using h
  · exact h
def noiStep (H : Int) (ns : List Nd) (x : Ng) : List Nd := match ns[x.node.toNat]? with
  | some nd => ns.set x.node.toNat (noiNd H nd)
  | none => ns
def noiTo (H : Int) (ns : List Nd) (xs : List Ng) : List Nd := xs.foldl (noiStep H) ns
theorem noiTo_snoc (H : Int) (ns : List Nd) (xs : List Ng) (x : Ng) : noiTo H ns (xs ++ [x]) = noiStep H (noiTo H ns xs) x := by simp [noiTo]
theorem noiStep_length (H : Int) (ns : List Nd) (x : Ng) : (noiStep H ns x).length = ns.length := by
  unfold noiStep
  split <;> simp
theorem noiTo_length (H : Int) (ns : List Nd) (xs : List Ng) : (noiTo H ns xs).length = ns.length := by
  induction xs generalizing ns with
  | nil => rfl
  | cons x xs ih => exact (ih (noiStep H ns x)).trans (noiStep_length H ns x)
theorem noiStep_nine (H : Int) {ns : List Nd} (h : Nine ns) (x : Ng) : Nine (noiStep H ns x) := by
  unfold noiStep
  split
  · rename_i nd hnd
    exact h.set _ (noiNd_nine H nd (h.get hnd))
  · exact h
theorem noiTo_nine (H : Int) {ns : List Nd} (h : Nine ns) (xs : List Ng) : Nine (noiTo H ns xs) := by
  induction xs generalizing ns with
  | nil => exact h
  | cons x xs ih => exact ih (noiStep_nine H h x)
theorem noiStep_at (H : Int) (ns : List Nd) (nd : Nd) (k : Nat) (xa xk xg : Int) (h : ns[k]? = some nd) : ns.set k (noiNd H nd) = noiStep H ns ⟨xa, xk, k, xg⟩ := by
  unfold noiStep
  simp only [Int.toNat_natCast, h]
theorem noiStep_same (H : Int) (ns : List Nd) (nd : Nd) (k : Nat) (xa xk xg : Int) (h : ns[k]? = some nd) (hn : noiNd H nd = nd) : noiStep H ns ⟨xa, xk, k, xg⟩ = ns := by
  rw [← noiStep_at H ns nd k xa xk xg h, hn]
  obtain ⟨h1, h2⟩ := List.getElem?_eq_some_iff.1 h
  rw [← h2]
  exact List.set_getElem_self h1
def NoiOk (n : Nat) (x : Ng) : Prop := 0 ≤ x.node ∧ x.node < n
theorem set_same {ns : List Nd} {k : Nat} {x : Nd} (h : ns[k]? = some x) : ns.set k x = ns := by
  obtain ⟨h1, h2⟩ := List.getElem?_eq_some_iff.1 h
  rw [← h2]
  exact List.set_getElem_self h1

/-- The bounds of a node. -/
structure NdB (x : Nd) : Prop where
  re0 : 1 ≤ x.s.f4
  re1 : x.s.f4 ≤ 1000
  bu0 : 0 ≤ x.s.f3
  bu1 : x.s.f3 ≤ 20
  tok0 : 0 ≤ x.tok
  tok1 : x.tok ≤ 20
theorem refNd_b (tick : Int) {x : Nd} (h : NdB x) : NdB (refNd tick x) := by
  unfold refNd
  split
  · obtain ⟨a, b, c, d, e, f⟩ := h
    exact ⟨a, b, c, d, by dsimp only; omega, by dsimp only; omega⟩
  · exact h
theorem noiNd_b (H : Int) {x : Nd} (h : NdB x) : NdB (noiNd H x) := by
  unfold noiNd
  split
  · rename_i hc
    obtain ⟨a, b, c, d, e, f⟩ := h
    exact ⟨a, b, c, d, by dsimp only; omega, by dsimp only; omega⟩
  · exact h
theorem noiTo_b (H : Int) {ns : List Nd} (h : ∀ x ∈ ns, NdB x) (xs : List Ng) : ∀ x ∈ noiTo H ns xs, NdB x := by
  induction xs generalizing ns with
  | nil => exact h
  | cons y xs ih =>
    refine ih (ns := noiStep H ns y) ?_
    unfold noiStep
    split
    · rename_i nd hnd
      intro x hx
      rcases List.mem_or_eq_of_mem_set hx with hx | rfl
      · exact h x hx
      · exact noiNd_b H (h nd (List.mem_of_getElem? hnd))
    · exact h
theorem map_b {f : Nd → Nd} (hf : ∀ x, NdB x → NdB (f x)) {ns : List Nd} (h : ∀ x ∈ ns, NdB x) : ∀ x ∈ ns.map f, NdB x := by
  intro x hx
  obtain ⟨y, hy, rfl⟩ := List.mem_map.1 hx
  exact hf y (h y hy)
end Go.Proofs.Ytiglkpgoakibaab
