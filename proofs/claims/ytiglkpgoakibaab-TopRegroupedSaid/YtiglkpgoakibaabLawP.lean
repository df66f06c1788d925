/- Plain laws and words for the law's walk: rows of nodes and nudges as cells, the plays' answers turned. No condition beyond those named. -/
import Derived.Test.YtiglkpgoakibaabLaw
namespace Go.Proofs.Ytiglkpgoakibaab
open Go.RowKit Go.Shelf PTopRegrouped Go.Proofs.YtiglkpgoakibaabW.PrintWords Go.Proofs.YtiglkpgoakibaabW.PrintLast

/-! ### rows of structs as cells -/
section
variable {α : Type} {f : α → List Value} {m : Nat}
theorem flat_len (hf : ∀ x, (f x).length = m) (l : List α) : (l.flatMap f).length = l.length * m := by
  induction l with
  | nil => simp
  | cons x l ih => simp only [List.flatMap_cons, List.length_append, hf, ih, List.length_cons, Nat.add_mul, Nat.one_mul]; omega
theorem flat_get (hf : ∀ x, (f x).length = m) (l : List α) (i j : Nat) (hj : j < m) (x : α) (hx : l[i]? = some x) : (l.flatMap f)[i * m + j]? = (f x)[j]? := by
  induction l generalizing i with
  | nil => simp at hx
  | cons y l ih =>
    simp only [List.flatMap_cons]
    cases i with
    | zero =>
      simp only [List.getElem?_cons_zero, Option.some.injEq] at hx
      subst hx
      rw [List.getElem?_append_left (by rw [hf]; omega)]
      simp
    | succ i =>
      simp only [List.getElem?_cons_succ] at hx
      rw [List.getElem?_append_right (by rw [hf, Nat.add_mul]; omega), hf]
      have e : (i + 1) * m + j - m = i * m + j := by rw [Nat.add_mul]; omega
      rw [e]
      exact ih i hx
theorem flat_at (hf : ∀ x, (f x).length = m) (hm : 0 < m) (l : List α) (i : Nat) (x : α) (hx : l[i]? = some x) (q : Nat) (u : Value) (hu : (f x)[q]? = some u) : (l.flatMap f)[i * m + q]? = some u := by
  have hq := (List.getElem?_eq_some_iff.1 hu).1
  rw [hf] at hq
  rw [flat_get hf l i q hq x hx, hu]
/-- An element is exchanged: its cells are. -/
theorem flat_set (hf : ∀ x, (f x).length = m) (l : List α) (i : Nat) (hi : i < l.length) (y : α) (c' : List Value) (hl : c'.length = l.length * m)
    (h1 : ∀ q, q < m → c'[i * m + q]? = (f y)[q]?) (h2 : ∀ p, (p < i * m ∨ i * m + m ≤ p) → c'[p]? = (l.flatMap f)[p]?) : c' = (l.set i y).flatMap f := by
  have hl2 : ((l.set i y).flatMap f).length = l.length * m := by rw [flat_len hf, List.length_set]
  refine List.ext_getElem? (fun p => ?_)
  by_cases hin : p < i * m ∨ i * m + m ≤ p
  · rw [h2 p hin]
    by_cases hp : p < l.length * m
    · have hm : 0 < m := by
        rcases Nat.eq_zero_or_pos m with h | h
        · subst h; simp at hp
        · exact h
      have hq : p / m < l.length := (Nat.div_lt_iff_lt_mul hm).2 hp
      have hr : p % m < m := Nat.mod_lt _ hm
      have he : p = p / m * m + p % m := by rw [Nat.mul_comm]; exact (Nat.div_add_mod p m).symm
      have hne : i ≠ p / m := fun e => by
        subst e
        rcases hin with h | h
        · omega
        · omega
      have ha := flat_get hf l (p / m) (p % m) hr _ (List.getElem?_eq_getElem hq)
      have hb := flat_get hf (l.set i y) (p / m) (p % m) hr _ (by rw [List.getElem?_set_ne hne]; exact List.getElem?_eq_getElem hq)
      rw [← he] at ha hb
      rw [ha, hb]
    · rw [List.getElem?_eq_none (by rw [flat_len hf]; omega), List.getElem?_eq_none (by rw [hl2]; omega)]
  · have h3 : i * m ≤ p := by omega
    have h4 : p - i * m < m := by omega
    have he : p = i * m + (p - i * m) := by omega
    have hb := flat_get hf (l.set i y) i (p - i * m) h4 y (List.getElem?_set_self hi)
    rw [← he] at hb
    rw [hb, ← h1 _ h4, ← he]
end
theorem scells_len (x : S31) : (scells x).length = 5 := rfl
theorem ncells_len (x : Ng) : x.cells.length = 4 := rfl
theorem scells_one (x : S31) : ∀ u ∈ scells x, u.oneCell' = true := fun u hu => by
  simp only [scells, List.mem_cons, List.not_mem_nil, or_false] at hu
  rcases hu with rfl | rfl | rfl | rfl | rfl <;> rfl
theorem ncells_one (x : Ng) : ∀ u ∈ x.cells, u.oneCell' = true := fun u hu => by
  simp only [Ng.cells, List.mem_cons, List.not_mem_nil, or_false] at hu
  rcases hu with rfl | rfl | rfl | rfl <;> rfl
theorem flat_one {α : Type} {f : α → List Value} (h : ∀ x, ∀ u ∈ f x, u.oneCell' = true) (l : List α) : ∀ u ∈ l.flatMap f, u.oneCell' = true := fun u hu => by
  obtain ⟨x, _, hx⟩ := List.mem_flatMap.1 hu
  exact h x u hx
theorem ClAt.flat {w : World} {A : Option Addr} {b off : Nat} {l : List S31} (h : ClAt w A b off l) : ∀ j u, (l.flatMap scells)[j]? = some u → w.cell? ((⟨b, off, none⟩ : Addr).add j) = some u := fun j u hu => by
  have hj := (List.getElem?_eq_some_iff.1 hu).1
  rw [flat_len scells_len] at hj
  have hq : j / 5 < l.length := by omega
  have h2 := flat_get scells_len l (j / 5) (j % 5) (by omega) _ (List.getElem?_eq_getElem hq)
  rw [show j / 5 * 5 + j % 5 = j by omega, hu] at h2
  rw [add_off]
  have h3 := h.hc (j / 5) _ (List.getElem?_eq_getElem hq) (j % 5) u h2.symm
  rwa [show off + j / 5 * 5 + j % 5 = off + j by omega] at h3
theorem ClAt.keep {w w' : World} {A : Option Addr} {b off : Nat} {l : List S31} (h : ClAt w A b off l) (hk : w'.heap[b]? = w.heap[b]?) (hz : w.heap.size ≤ w'.heap.size) : ClAt w' A b off l where
  hA := h.hA
  hc := fun k x hx i u hu => (World.cell?_of_block hk).trans (h.hc k x hx i u hu)
  bb := Nat.lt_of_lt_of_le h.bb hz
theorem NgAt.flat {w : World} {b off : Nat} {l : List Ng} (h : NgAt w b off l) : ∀ j u, (l.flatMap Ng.cells)[j]? = some u → w.cell? ((⟨b, off, none⟩ : Addr).add j) = some u := fun j u hu => by
  have hj := (List.getElem?_eq_some_iff.1 hu).1
  rw [flat_len ncells_len] at hj
  have hq : j / 4 < l.length := by omega
  have h2 := flat_get ncells_len l (j / 4) (j % 4) (by omega) _ (List.getElem?_eq_getElem hq)
  rw [show j / 4 * 4 + j % 4 = j by omega, hu] at h2
  rw [add_off]
  have h3 := h (j / 4) _ (List.getElem?_eq_getElem hq) (j % 4) u h2.symm
  rwa [show off + j / 4 * 4 + j % 4 = off + j by omega] at h3
/-- A row of nodes that the call owns reads as a cluster's nodes. -/
theorem cl_of_own {w : World} {base g cap : Nat} {l : List S31} (h : w.ownsRow base 31 5 (.slice (some ⟨g, 0, none⟩) l.length cap) l.length (l.flatMap scells)) : ClAt w (some ⟨g, 0, none⟩) g 0 l where
  hA := fun _ => rfl
  bb := by
    rcases h.2 with ⟨h2, _⟩ | ⟨g', cap', cur, hv, _, hg, _⟩
    · cases h2
    · cases hv; exact blk_lt' hg
  hc := fun k x hk i u hu => by
    have hi := (List.getElem?_eq_some_iff.1 hu).1
    have hkl := (List.getElem?_eq_some_iff.1 hk).1
    change i < 5 at hi
    rw [Nat.zero_add, World.ownsRow.cellAt h _ (by omega)]
    exact flat_at scells_len (by decide) l k x hk i u hu
theorem cl_of_blk {w : World} {g n : Nat} {l : List S31} (h : w.heap[g]? = some (.cells (l.flatMap scells).toArray 31 (0, 0))) : ClAt w (some ⟨g, 0, none⟩) g 0 l where
  hA := fun _ => rfl
  bb := blk_lt' h
  hc := fun k x hk i u hu => by
    rw [blk_cell' h, Nat.zero_add, List.getElem?_toArray]
    exact flat_at scells_len (by decide) l k x hk i u hu
/-- A row of nudges that the call owns. -/
theorem ng_of_own {w : World} {base : Nat} {v : Value} {ls : List Ng} (h : w.ownsRow base 33 4 v ls.length (ls.flatMap Ng.cells)) (z : Nat) (hz : z < w.heap.size) :
    ∃ A g cap, v = .slice A ls.length cap ∧ ls.length ≤ cap ∧ (0 < ls.length → A = some ⟨g, 0, none⟩) ∧ NgAt w g 0 ls ∧ g < w.heap.size := by
  rcases h.2 with ⟨rfl, h0⟩ | ⟨g, cap, cur, rfl, _, hg, hle, _⟩
  · have := List.eq_nil_of_length_eq_zero h0
    subst this
    exact ⟨none, z, 0, rfl, Nat.le_refl _, fun h => absurd h (Nat.lt_irrefl 0), fun k x hk => by simp at hk, hz⟩
  · refine ⟨_, g, cap, rfl, hle, fun _ => rfl, fun k x hk i u hu => ?_, blk_lt' hg⟩
    have hi := (List.getElem?_eq_some_iff.1 hu).1
    have hkl := (List.getElem?_eq_some_iff.1 hk).1
    change i < 4 at hi
    rw [Nat.zero_add, World.ownsRow.cellAt h _ (by omega)]
    exact flat_at ncells_len (by decide) ls k x hk i u hu

theorem ng_own_some {w : World} {base g cap n : Nat} {ls : List Ng} (hn : ls.length = n) (h : w.ownsRow base 33 4 (.slice (some ⟨g, 0, none⟩) n cap) n (ls.flatMap Ng.cells)) : NgAt w g 0 ls ∧ g < w.heap.size := by
  refine ⟨fun k x hk i u hu => ?_, (World.ownsRow.lt h _ rfl).2⟩
  have hi := (List.getElem?_eq_some_iff.1 hu).1
  have hkl := (List.getElem?_eq_some_iff.1 hk).1
  change i < 4 at hi
  rw [Nat.zero_add, World.ownsRow.cellAt h _ (by omega)]
  exact flat_at ncells_len (by decide) ls k x hk i u hu
/-! ### a whole row is appended to an empty one -/
section
variable {P : Program} {ops : Array Oper} {rest : List Oper} {o : Oper} {a : Act} {Q : Exit → Act → World → Prop} {K : Act → World → Prop}
theorem run_append_row {W : World} (base : Nat) (t ty e : TypeId) (z : Value) (size bytes : Nat) (ht : P.underlying t = some (.slice e)) (hinfo : (P.info? e).map (fun i => (i.zero, i.size, i.bytes)) = some (some z, size, bytes)) (hz : z.cells.size = size) (hs0 : 0 < size) (hb0 : 0 < bytes)
    (v : Value) (A : Option Addr) (ad : Addr) (m c : Nat) (news : List Value) (hl : news.length = m * size) (hA : 0 < m → A = some ad) (hnews : ∀ j u, news[j]? = some u → W.cell? (ad.add j) = some u) (h1 : ∀ u ∈ news, u.oneCell' = true)
    (HO : W.ownsRow base e size v 0 []) (hbase : base ≤ W.heap.size) (hm : m * bytes ≤ 140737488355328) :
    ∃ v1 w1, (Builtin.append_ #[t, t] ty #[v, .slice A m c]).run P W = .ok v1 w1 ∧ w1.ownsRow base e size v1 m news ∧ W.grownBy w1 v.ownBlock ∧ (v1.ownBlock = v.ownBlock ∨ v1.ownBlock = some W.heap.size) := by
  obtain ⟨i0, hi, hzz⟩ := Option.map_eq_some_iff.1 hinfo
  simp only [Prod.mk.injEq] at hzz
  obtain ⟨hz0, hz1, hz2⟩ := hzz
  have hlen : m ≤ 140737488355328 := Nat.le_trans (Nat.le_mul_of_pos_right _ hb0) hm
  rcases A with _ | ad'
  · obtain rfl : m = 0 := by
      rcases Nat.eq_zero_or_pos m with h0 | h0
      · exact h0
      · cases hA h0
    obtain rfl : news = [] := List.eq_nil_of_length_eq_zero (by omega)
    refine ⟨v, W, ?_, HO, World.grownBy.refl W _, .inl rfl⟩
    rcases HO.2 with ⟨rfl, hn⟩ | ⟨g, cap, cur, rfl, _, _, hnc, _⟩
    · simp [Builtin.append_, run_underlying ht, sizeOf, typeInfo, hi, Builtin.lenOf, Builtin.firstCells]
    · simp [Builtin.append_, run_underlying ht, sizeOf, typeInfo, hi, Builtin.lenOf, Builtin.firstCells, storeCells]
  · have hn : ∀ j u, news[j]? = some u → W.cell? (ad'.add j) = some u := fun j u hu => by
      have hj := (List.getElem?_eq_some_iff.1 hu).1
      have h0 : 0 < m := by
        rcases Nat.eq_zero_or_pos m with h0 | h0
        · subst h0; omega
        · exact h0
      cases hA h0
      exact hnews j u hu
    obtain ⟨v1, w1, hrun, h2, hg, _, hat⟩ := run_append_own_at (P := P) W base t ty e i0 z size bytes ht hi hz0 hz1 hz2 hz hs0 v 0 [] HO ad' m c news hl hn h1 (by simp only [maxLen]; omega) (by rw [Nat.zero_add]; exact hm) hbase
    rw [Nat.zero_add, List.nil_append] at h2
    exact ⟨v1, w1, hrun, h2, hg, hat⟩
theorem own_shape {w : World} {base n size g0 k : Nat} {e : TypeId} {v : Value} {xs : List Value} {o0 : Option Nat} (h : w.ownsRow base e size v n xs) (h0 : o0 = some g0) (hat : v.ownBlock = o0 ∨ v.ownBlock = some k) : ∃ g cap, v = .slice (some ⟨g, 0, none⟩) n cap ∧ n ≤ cap ∧ (g = g0 ∨ g = k) := by
  rcases h.2 with ⟨rfl, _⟩ | ⟨g, cap, cur, rfl, _, _, hle, _⟩
  · subst h0
    rcases hat with h | h <;> cases h
  · refine ⟨g, cap, rfl, hle, ?_⟩
    subst h0
    rcases hat with h | h
    · exact .inl (Option.some.inj h)
    · exact .inr (Option.some.inj h)
theorem step_append_row {W : World} (hw : Region.wanted o (yielded ops a.tmps) = true) (s x : Operand) (base : Nat) (t e : TypeId) (z : Value) (size bytes : Nat)
    (ho : o.op = .call { callee := .builtin .append, args := #[s, x], argTypes := #[t, t] })
    (ht : P.underlying t = some (.slice e)) (hinfo : (P.info? e).map (fun i => (i.zero, i.size, i.bytes)) = some (some z, size, bytes)) (hz : z.cells.size = size) (hs0 : 0 < size) (hb0 : 0 < bytes)
    (g0 : Nat) (A : Option Addr) (ad : Addr) (m c : Nat) (news : List Value) (hs : a.eval s = .slice (some ⟨g0, 0, none⟩) 0 0) (hx : a.eval x = .slice A m c) (hl : news.length = m * size) (hA : 0 < m → A = some ad) (hnews : ∀ j u, news[j]? = some u → W.cell? (ad.add j) = some u) (h1 : ∀ u ∈ news, u.oneCell' = true)
    (HO : W.ownsRow base e size (.slice (some ⟨g0, 0, none⟩) 0 0) 0 []) (hbase : base ≤ W.heap.size) (hm : m * bytes ≤ 140737488355328)
    (h : ∀ g1 cap1 w1, w1.ownsRow base e size (.slice (some ⟨g1, 0, none⟩) m cap1) m news → m ≤ cap1 → W.grownBy w1 (some g0) → (g1 = g0 ∨ g1 = W.heap.size) → K (a.put o.dst (.slice (some ⟨g1, 0, none⟩) m cap1)) w1) :
    if Region.wanted o (yielded ops a.tmps) = true then Oper.wp P o a W K Q else K (a.put o.dst undef) W := by
  obtain ⟨v1, w1, hrun, h2, hg, hat⟩ := run_append_row (P := P) base t o.type e z size bytes ht hinfo hz hs0 hb0 _ A ad m c news hl hA hnews h1 HO hbase hm
  rw [if_pos hw]
  unfold Oper.wp execOp
  simp only [ho, resolve, invoke, builtin, Sem.run_bind, Sem.run_pure, Result.andThen_ok, List.map_toArray, List.map_cons, List.map_nil, hs, hx, hrun]
  obtain ⟨g1, cap1, rfl, hle, ho⟩ := own_shape h2 rfl hat
  exact h g1 cap1 w1 h2 hle hg ho
theorem wpList_append_row {W : World} (hgd : o.guard = none) (s x : Operand) (base : Nat) (t e : TypeId) (z : Value) (size bytes : Nat)
    (ho : o.op = .call { callee := .builtin .append, args := #[s, x], argTypes := #[t, t] })
    (ht : P.underlying t = some (.slice e)) (hinfo : (P.info? e).map (fun i => (i.zero, i.size, i.bytes)) = some (some z, size, bytes)) (hz : z.cells.size = size) (hs0 : 0 < size) (hb0 : 0 < bytes)
    (g0 : Nat) (A : Option Addr) (ad : Addr) (m c : Nat) (news : List Value) (hs : a.eval s = .slice (some ⟨g0, 0, none⟩) 0 0) (hx : a.eval x = .slice A m c) (hl : news.length = m * size) (hA : 0 < m → A = some ad) (hnews : ∀ j u, news[j]? = some u → W.cell? (ad.add j) = some u) (h1 : ∀ u ∈ news, u.oneCell' = true)
    (HO : W.ownsRow base e size (.slice (some ⟨g0, 0, none⟩) 0 0) 0 []) (hbase : base ≤ W.heap.size) (hm : m * bytes ≤ 140737488355328)
    (h : ∀ g1 cap1 w1, w1.ownsRow base e size (.slice (some ⟨g1, 0, none⟩) m cap1) m news → m ≤ cap1 → W.grownBy w1 (some g0) → (g1 = g0 ∨ g1 = W.heap.size) → wpList P ops Q rest (a.put o.dst (.slice (some ⟨g1, 0, none⟩) m cap1)) w1) :
    wpList P ops Q (o :: rest) a W := by
  refine wpList_plain hgd fun K hK => ?_
  obtain ⟨v1, w1, hrun, h2, hg, hat⟩ := run_append_row (P := P) base t o.type e z size bytes ht hinfo hz hs0 hb0 _ A ad m c news hl hA hnews h1 HO hbase hm
  unfold Oper.wp execOp
  simp only [ho, resolve, invoke, builtin, Sem.run_bind, Sem.run_pure, Result.andThen_ok, List.map_toArray, List.map_cons, List.map_nil, hs, hx, hrun]
  obtain ⟨g1, cap1, rfl, hle, ho⟩ := own_shape h2 rfl hat
  exact hK _ _ (h g1 cap1 w1 h2 hle hg ho)
/-- A new row of n zero structs. -/
theorem step_make_row {W : World} (hw : Region.wanted o (yielded ops a.tmps) = true) (t e : TypeId) (x y : Operand) (ho : o.op = .makeSlice t x y) (z : Value) (size bytes n : Nat) (hx : a.eval x = .int .i64 n) (hy : a.eval y = .int .i64 n)
    (ht : P.underlying t = some (.slice e)) (hinfo : (P.info? e).map (fun i => (i.zero, i.size, i.bytes)) = some (some z, size, bytes)) (hn : n * bytes ≤ 281474976710656) (hb0 : 0 < bytes)
    (h : K (a.put o.dst (.slice (some ⟨W.heap.size, 0, none⟩) n n)) (W.alloc (.cells (madeCells z.cells (n * size)) e))) :
    if Region.wanted o (yielded ops a.tmps) = true then Oper.wp P o a W K Q else K (a.put o.dst undef) W := by
  obtain ⟨i0, hi, hzz⟩ := Option.map_eq_some_iff.1 hinfo
  simp only [Prod.mk.injEq] at hzz
  obtain ⟨hz0, hz1, hz2⟩ := hzz
  have hm : n ≤ 281474976710656 := Nat.le_trans (Nat.le_mul_of_pos_right _ hb0) hn
  have hr := run_make (P := P) W t e i0 z ht hi hz0 .i64 .i64 (n : Int) (n : Int) (by omega) (by omega)
    (by
      have h3 : ((i0.bytes * n : Nat) : Int) ≤ 281474976710656 := by rw [hz2, Nat.mul_comm]; omega
      rwa [Int.natCast_mul] at h3) (by omega)
  simp only [Int.toNat_natCast] at hr
  rw [hz1] at hr
  rw [if_pos hw]
  unfold Oper.wp execOp
  simp only [ho, hx, hy, Sem.run_bind, hr, Result.andThen_ok, Sem.run_pure]
  exact h
end
theorem made_zero31 (n : Nat) : (madeCells (Value.agg #[.int .i64 0, .int .i64 0, .int .i64 0, .int .i64 0, .int .i64 0]).cells (n * 5)) = ((List.replicate n (⟨0, 0, 0, 0, 0⟩ : S31)).flatMap scells).toArray := by
  apply Array.ext'
  rw [List.toList_toArray]
  apply List.ext_getElem?
  intro p
  by_cases hp : p < n * 5
  · have h2 := flat_get scells_len (List.replicate n (⟨0, 0, 0, 0, 0⟩ : S31)) (p / 5) (p % 5) (by omega) ⟨0, 0, 0, 0, 0⟩ (by rw [List.getElem?_replicate, if_pos (by omega)])
    rw [show p / 5 * 5 + p % 5 = p by omega] at h2
    rw [h2]
    have h5 : p % 5 = 0 ∨ p % 5 = 1 ∨ p % 5 = 2 ∨ p % 5 = 3 ∨ p % 5 = 4 := by omega
    simp only [madeCells, Value.cells, Array.getElem?_toList, Array.getElem?_map, Array.getElem?_range, if_pos hp, Option.map_some]
    rcases h5 with h | h | h | h | h <;> simp [h, scells]
  · have ha : ((List.replicate n (⟨0, 0, 0, 0, 0⟩ : S31)).flatMap scells).length = n * 5 := by rw [flat_len scells_len, List.length_replicate]
    rw [List.getElem?_eq_none (l := (List.replicate n (⟨0, 0, 0, 0, 0⟩ : S31)).flatMap scells) (by omega), List.getElem?_eq_none]
    simp [madeCells]; omega

/-! ### the plays' answers, turned -/
def playR (G H T : Int) (l : List S31) (ls : List Ng) : List Int × List Int × Int :=
  if begErr G T l ls = 0 then (rowsL H G.toNat ls (l.map newNd) T.toNat, enTo (rowsL H G.toNat ls (l.map newNd) T.toNat) l T.toNat, 0) else ([], [], begErr G T l ls)
def askR (G H T : Int) (l : List S31) (ls : List Ng) : List Int × Int :=
  if begErr G T l ls = 0 then (askedL H G.toNat ls (l.map newNd) T.toNat, 0) else ([], begErr G T l ls)
def failR (G H T : Int) (l : List S31) (ls : List Ng) (t : Int) : Prop :=
  if begErr G T l ls = 0 then failT (askedL H G.toNat ls (l.map newNd) T.toNat) (rowsL H G.toNat ls (l.map newNd) T.toNat) l t else t = 0
theorem play_all {G H : Int} (T : Int) {A : Option Addr} {b off c : Nat} {l : List S31} (hk : ClOk G H l) (hlc : l.length ≤ c) (w : World) (hc : ClAt w A b off l)
    (Al : Option Addr) (nb noff lc : Nat) (ls : List Ng) (hls : ls.length ≤ 1000) (hA : 0 < ls.length → Al = some ⟨nb, noff, none⟩) (hn : NgAt w nb noff ls) (hnb : nb < w.heap.size) :
    Calls Try.prog 8 #[.agg #[.int .i64 G, .int .i64 H, .slice A l.length c], .int .i64 T, .slice Al ls.length lc] w fun e w' =>
      ∃ v1 v2, e = .returned (.tuple #[v1, v2, .int .i64 (playR G H T l ls).2.2]) ∧ Ints w' w.heap.size v1 (playR G H T l ls).1 ∧ Ints w' w.heap.size v2 (playR G H T l ls).2.1 ∧ Below w.heap.size w w' := by
  refine (play_any T hk hlc w hc Al nb noff lc ls hls hA hn hnb).mono ?_
  rintro e w' ⟨hB, h⟩
  unfold playR
  split at h
  · rename_i h0
    obtain ⟨v1, v2, rfl, h1, h2⟩ := h
    rw [if_pos h0]
    exact ⟨v1, v2, rfl, h1, h2, hB⟩
  · rename_i h0
    rw [if_neg h0]
    exact ⟨_, _, h, Ints.nil _ _, Ints.nil _ _, hB⟩
theorem ask_all {G H : Int} (T : Int) {A : Option Addr} {b off c : Nat} {l : List S31} (hk : ClOk G H l) (hlc : l.length ≤ c) (w : World) (hc : ClAt w A b off l)
    (Al : Option Addr) (nb noff lc : Nat) (ls : List Ng) (hls : ls.length ≤ 1000) (hA : 0 < ls.length → Al = some ⟨nb, noff, none⟩) (hn : NgAt w nb noff ls) (hnb : nb < w.heap.size) :
    Calls Try.prog 11 #[.agg #[.int .i64 G, .int .i64 H, .slice A l.length c], .int .i64 T, .slice Al ls.length lc] w fun e w' =>
      ∃ v1, e = .returned (.tuple #[v1, .int .i64 (askR G H T l ls).2]) ∧ Ints w' w.heap.size v1 (askR G H T l ls).1 ∧ Below w.heap.size w w' := by
  refine (asked_any T hk hlc w hc Al nb noff lc ls hls hA hn hnb).mono ?_
  rintro e w' ⟨hB, h⟩
  unfold askR
  split at h
  · rename_i h0
    obtain ⟨v1, rfl, h1⟩ := h
    rw [if_pos h0]
    exact ⟨v1, rfl, h1, hB⟩
  · rename_i h0
    rw [if_neg h0]
    exact ⟨_, h, Ints.nil _ _, hB⟩
theorem fail_all {G H : Int} (T : Int) {A : Option Addr} {b off c : Nat} {l : List S31} (hk : ClOk G H l) (hlc : l.length ≤ c) (w : World) (hc : ClAt w A b off l)
    (Al : Option Addr) (nb noff lc : Nat) (ls : List Ng) (hls : ls.length ≤ 1000) (hA : 0 < ls.length → Al = some ⟨nb, noff, none⟩) (hn : NgAt w nb noff ls) (hnb : nb < w.heap.size) :
    Calls Try.prog 12 #[.agg #[.int .i64 G, .int .i64 H, .slice A l.length c], .int .i64 T, .slice Al ls.length lc] w fun e w' =>
      ∃ t i, e = .returned (.tuple #[.int .i64 t, .int .i64 i, .int .i64 (begErr G T l ls)]) ∧ failR G H T l ls t ∧ Below w.heap.size w w' := by
  refine (fail_any T hk hlc w hc Al nb noff lc ls hls hA hn hnb).mono ?_
  rintro e w' ⟨hB, h⟩
  unfold failR
  split at h
  · rename_i h0
    obtain ⟨t, i, rfl, h1⟩ := h
    exact ⟨t, i, by rw [h0], by rw [if_pos h0]; exact h1, hB⟩
  · rename_i h0
    exact ⟨0, 0, h, by rw [if_neg h0], hB⟩

section
variable {n x G y hold : Nat} {la lb : List S31} (h2 : Two n x G y hold la lb) (T : Int) (ls : List Ng)
include h2
theorem two_beg : begErr G T lb (ls.map (tuNg n x G y)) = begErr G T la ls := beg_turn h2.G8 h2.x1 (fun _ => h2.y1) h2.cl T ls
theorem two_rng (h : begErr G T la ls = 0) : ∀ q ∈ ls, NgR n G q := fun q hq => right_ngR h2.cl.la ((begErr_zero h).2.2.2 q hq)
theorem play_same : (playR G hold T lb (ls.map (tuNg n x G y))).2.2 = (playR G hold T la ls).2.2 ∧ (playR G hold T lb (ls.map (tuNg n x G y))).1.length = (playR G hold T la ls).1.length ∧
    (∀ (k : Nat) (u : Int), (playR G hold T la ls).1[k]? = some u → ∃ v, (playR G hold T lb (ls.map (tuNg n x G y))).1[k]? = some v ∧ IsTurn n x u v ∧ Bd n u) ∧
    (playR G hold T lb (ls.map (tuNg n x G y))).2.1.length = (playR G hold T la ls).2.1.length ∧ ((playR G hold T la ls).2.1 = [] ∨ (playR G hold T la ls).2.1.length = n) ∧
    ∀ i : Nat, i < (playR G hold T la ls).2.1.length → (playR G hold T lb (ls.map (tuNg n x G y))).2.1[rot n x i]? = (playR G hold T la ls).2.1[i]? := by
  have hb := two_beg h2 T ls
  unfold playR
  rw [hb]
  by_cases h0 : begErr G T la ls = 0
  · have hr := two_rng h2 T ls h0
    rw [if_pos h0, if_pos h0, Int.toNat_natCast]
    have hns := h2.cl.ns h2.G8
    have hl : ∀ (H : Int) (G : Nat) (ls : List Ng) (ns : List Nd) (T : Nat), (rowsL H G ls ns T).length = T := fun H G ls ns T => by unfold rowsL; simp
    have hkk : ∀ k, k < T.toNat → ∃ u v, (rowsL hold G ls (la.map newNd) T.toNat)[k]? = some u ∧ (rowsL hold G (ls.map (tuNg n x G y)) (lb.map newNd) T.toNat)[k]? = some v ∧ IsTurn n x u v ∧ Bd n u := fun k hk =>
      ⟨_, _, rowsL_get _ _ _ _ _ _ hk, rowsL_get _ _ _ _ _ _ hk, rowAt_turn h2.n16 h2.G8 h2.x1 (fun _ => h2.y1) hold ls hr hns k, row_bd h2.n16 h2.G8 h2.x1 (fun _ => h2.y1) h2.cl hold ls hr k⟩
    refine ⟨rfl, by rw [hl, hl], fun k u hu => ?_, by rw [enTo_length, enTo_length, h2.cl.la, h2.cl.lb], .inr (by rw [enTo_length, h2.cl.la]), fun i hi => ?_⟩
    · have hk := (List.getElem?_eq_some_iff.1 hu).1
      rw [hl] at hk
      obtain ⟨u', v, h1, h3, h4, h5⟩ := hkk k hk
      dsimp only at hu
      rw [h1] at hu
      cases hu
      exact ⟨v, h3, h4, h5⟩
    · dsimp only at hi ⊢
      rw [enTo_length, h2.cl.la] at hi
      exact en_turn h2.n16 h2.x1 h2.cl _ _ T.toNat hkk T.toNat (Nat.le_refl _) i hi
  · rw [if_neg h0, if_neg h0]
    exact ⟨rfl, rfl, fun k u hu => by simp at hu, rfl, .inl rfl, fun i hi => by simp at hi⟩
theorem ask_same : (askR G hold T lb (ls.map (tuNg n x G y))).2 = (askR G hold T la ls).2 ∧ (askR G hold T lb (ls.map (tuNg n x G y))).1.length = (askR G hold T la ls).1.length ∧
    (∀ (k : Nat) (u : Int), (askR G hold T la ls).1[k]? = some u → ∃ v, (askR G hold T lb (ls.map (tuNg n x G y))).1[k]? = some v ∧ IsTurn G y u v ∧ Bd G u) := by
  have hb := two_beg h2 T ls
  unfold askR
  rw [hb]
  by_cases h0 : begErr G T la ls = 0
  · have hr := two_rng h2 T ls h0
    rw [if_pos h0, if_pos h0, Int.toNat_natCast]
    have hns := h2.cl.ns h2.G8
    have hl : ∀ (H : Int) (G : Nat) (ls : List Ng) (ns : List Nd) (T : Nat), (askedL H G ls ns T).length = T := fun H G ls ns T => by unfold askedL; simp
    refine ⟨rfl, by rw [hl, hl], fun k u hu => ?_⟩
    have hk := (List.getElem?_eq_some_iff.1 hu).1
    rw [hl] at hk
    dsimp only at hu
    rw [askedL_get _ _ _ _ _ _ hk] at hu
    cases hu
    obtain ⟨a1, a2⟩ := askedAt_turn h2.n16 h2.G8 h2.x1 (fun _ => h2.y1) hold ls hr hns k
    exact ⟨_, askedL_get _ _ _ _ _ _ hk, a1, a2⟩
  · rw [if_neg h0, if_neg h0]
    exact ⟨rfl, rfl, fun k u hu => by simp at hu⟩
theorem fail_same {t t' : Int} (ha : failR G hold T la ls t) (hb : failR G hold T lb (ls.map (tuNg n x G y)) t') : t' = t := by
  have hbg := two_beg h2 T ls
  unfold failR at ha hb
  rw [hbg] at hb
  by_cases h0 : begErr G T la ls = 0
  · have hr := two_rng h2 T ls h0
    rw [if_pos h0, Int.toNat_natCast] at ha hb
    have hl : ∀ (H : Int) (G : Nat) (ls : List Ng) (ns : List Nd) (T : Nat), (rowsL H G ls ns T).length = T := fun H G ls ns T => by unfold rowsL; simp
    refine (failT_eq (by rw [hl, hl]) (fun k hk => ?_) ha hb).symm
    rw [hl] at hk
    exact fail_turn h2.n16 h2.G8 h2.x1 (fun _ => h2.y1) h2.cl hold ls hr T.toNat k hk
  · rw [if_neg h0] at ha hb
    rw [ha, hb]
end
theorem sameInts_l0 (l : List Int) (hl : l.length ≤ 1000) (m : Nat) : ∀ i : Nat, i + m = l.length → ignitiontop_sameInts.l0 (m + 1) l l i = some true := by
  induction m with
  | zero => intro i hi; rw [ignitiontop_sameInts.l0, if_neg (by omega)]
  | succ m ih =>
    intro i hi
    have hw : wrap64 ((i : Int) + 1) = ((i + 1 : Nat) : Int) := by unfold wrap64; omega
    rw [ignitiontop_sameInts.l0, if_pos (by omega), if_pos (by omega), if_pos (by omega), if_pos rfl, hw]
    exact ih (i + 1) (by omega)
theorem sameInts_self (l : List Int) (hl : l.length ≤ 1000) : ignitiontop_sameInts.f (l.length + 1) l l = some true := by
  unfold ignitiontop_sameInts.f
  rw [if_pos rfl]
  exact sameInts_l0 l hl l.length 0 (by omega)
/-- The energies, turned on, are those of the turned cluster. -/
theorem energies_same {n x : Nat} (hx : 0 < n → x < n) (hn : n ≤ 16) {ea eb : List Int} (h1 : eb.length = ea.length) (h3 : ea = [] ∨ ea.length = n) (h4 : ∀ i : Nat, i < ea.length → eb[rot n x i]? = ea[i]?) : ignitiontop_aroundInts.f (ea.length + 1) ea x = some eb := by
  rcases Nat.eq_zero_or_pos ea.length with h0 | h0
  · obtain rfl := List.eq_nil_of_length_eq_zero h0
    obtain rfl := List.eq_nil_of_length_eq_zero h1
    unfold ignitiontop_aroundInts.f
    simp [ignitiontop_aroundInts.l0]
  · have hl : ea.length = n := by
      rcases h3 with rfl | h3
      · simp at h0
      · exact h3
    obtain ⟨r, hr, hrl, hrr⟩ := aroundInts_ok (x := x) ea (by rw [hl]; exact hx (by omega)) (by omega)
    rw [hr]
    congr 1
    refine List.ext_getElem? (fun p => ?_)
    by_cases hp : p < n
    · obtain ⟨i, hi, rfl⟩ := rot_surj (hx (by omega)) hp
      have h5 := hrr i (by omega)
      rw [hl] at h5
      rw [h5, h4 i (by omega)]
    · rw [List.getElem?_eq_none (by omega), List.getElem?_eq_none (by omega)]
/-- The nodes of b that have been laid when k rounds are done. -/
def RelB (w6 wr : World) (gB n x G y k : Nat) (la : List S31) : Prop :=
  Bel w6.heap.size gB w6 wr ∧ ∃ lb : List S31, lb.length = n ∧ wr.heap[gB]? = some (.cells (lb.flatMap scells).toArray 31 (0, 0)) ∧ ∀ i s, i < k → la[i]? = some s → ∃ s', lb[rot n x i]? = some s' ∧ SlT G y s s'
theorem nd_bd {G : Nat} {hold : Int} {la : List S31} (hk : ClOk G hold la) {k : Nat} {s : S31} (hs : la[k]? = some s) : Bd G s.f0 := by
  have h := hk.nd s (List.mem_of_getElem? hs)
  unfold nodeB at h
  simp only [Bool.and_eq_true, win_iff, Int.toNat_natCast] at h
  exact ⟨h.1.1, by omega⟩

theorem five_set {cs : List Value} {lb : List S31} {n j : Nat} (hcs : cs = lb.flatMap scells) (hl : lb.length = n) (hj : j < n) (s' : S31) :
    ((((cs.set (j * 5) (.int .i64 s'.f0)).set (j * 5 + 1) (.int .i64 s'.f1)).set (j * 5 + 2) (.int .i64 s'.f2)).set (j * 5 + 3) (.int .i64 s'.f3)).set (j * 5 + 4) (.int .i64 s'.f4) = (lb.set j s').flatMap scells := by
  subst hcs
  have hfl : (lb.flatMap scells).length = n * 5 := by rw [flat_len scells_len, hl]
  refine flat_set scells_len lb j (by omega) s' _ (by simp only [List.length_set, hfl, hl]) (fun q hq => ?_) (fun p hp => ?_)
  · have h5 : q = 0 ∨ q = 1 ∨ q = 2 ∨ q = 3 ∨ q = 4 := by omega
    rcases h5 with rfl | rfl | rfl | rfl | rfl
    · rw [show j * 5 + 0 = j * 5 from rfl, List.getElem?_set_ne (by omega), List.getElem?_set_ne (by omega), List.getElem?_set_ne (by omega), List.getElem?_set_ne (by omega), List.getElem?_set_self (by omega)]; rfl
    · rw [List.getElem?_set_ne (by omega), List.getElem?_set_ne (by omega), List.getElem?_set_ne (by omega), List.getElem?_set_self (by simp only [List.length_set]; omega)]; rfl
    · rw [List.getElem?_set_ne (by omega), List.getElem?_set_ne (by omega), List.getElem?_set_self (by simp only [List.length_set]; omega)]; rfl
    · rw [List.getElem?_set_ne (by omega), List.getElem?_set_self (by simp only [List.length_set]; omega)]; rfl
    · rw [List.getElem?_set_self (by simp only [List.length_set]; omega)]; rfl
  · rw [List.getElem?_set_ne (by omega), List.getElem?_set_ne (by omega), List.getElem?_set_ne (by omega), List.getElem?_set_ne (by omega), List.getElem?_set_ne (by omega)]
theorem relB_step {w6 wa W : World} {gB n x G y k : Nat} {la : List S31} {s : S31} {r : Int} (hx : 0 < n → x < n) (hlt : k < n) (hB : Bel w6.heap.size gB w6 wa) (hW : Below wa.heap.size wa W) (lb : List S31) (hl : lb.length = n)
    (hkb : W.heap[gB]? = some (.cells (lb.flatMap scells).toArray 31 (0, 0))) (hlb : ∀ i s, i < k → la[i]? = some s → ∃ s', lb[rot n x i]? = some s' ∧ SlT G y s s') (hs : la[k]? = some s) (hT : SlT G y s ⟨r, s.f1, s.f2, s.f3, s.f4⟩) :
    RelB w6 (((((W.setCell ⟨gB, rot n x k * 5, none⟩ (.int .i64 r)).setCell ⟨gB, rot n x k * 5 + 1, none⟩ (.int .i64 s.f1)).setCell ⟨gB, rot n x k * 5 + 2, none⟩ (.int .i64 s.f2)).setCell ⟨gB, rot n x k * 5 + 3, none⟩ (.int .i64 s.f3)).setCell ⟨gB, rot n x k * 5 + 4, none⟩ (.int .i64 s.f4)) gB n x G y (k + 1) la := by
  have hj : rot n x k < n := rot_lt (by omega)
  refine ⟨(((((hB.trans (Bel.of_below (hW.mono hB.size))).set (p := ⟨gB, _, none⟩) (.inl rfl) _).set (p := ⟨gB, _, none⟩) (.inl rfl) _).set (p := ⟨gB, _, none⟩) (.inl rfl) _).set (p := ⟨gB, _, none⟩) (.inl rfl) _).set (p := ⟨gB, _, none⟩) (.inl rfl) _, lb.set (rot n x k) ⟨r, s.f1, s.f2, s.f3, s.f4⟩, by rw [List.length_set]; exact hl, ?_, fun i s2 hi hs2 => ?_⟩
  · have h1 := heap_setCell_same _ _ (rot n x k * 5) _ _ (.int .i64 r) hkb
    have h2 := heap_setCell_same _ _ (rot n x k * 5 + 1) _ _ (.int .i64 s.f1) h1
    have h3 := heap_setCell_same _ _ (rot n x k * 5 + 2) _ _ (.int .i64 s.f2) h2
    have h4 := heap_setCell_same _ _ (rot n x k * 5 + 3) _ _ (.int .i64 s.f3) h3
    have h5 := heap_setCell_same _ _ (rot n x k * 5 + 4) _ _ (.int .i64 s.f4) h4
    rw [h5]
    simp only [List.setIfInBounds_toArray]
    rw [five_set rfl hl hj ⟨r, s.f1, s.f2, s.f3, s.f4⟩]
  · rcases Nat.lt_or_ge i k with h | h
    · obtain ⟨s', h1, h2⟩ := hlb i s2 h hs2
      refine ⟨s', ?_, h2⟩
      rw [List.getElem?_set_ne (fun e => by have := rot_inj (hx (by omega)) hlt (by omega) e; omega)]
      exact h1
    · obtain rfl : i = k := by omega
      rw [hs] at hs2
      cases hs2
      exact ⟨_, List.getElem?_set_self (by omega), hT⟩
theorem Bel.old {B B0 g : Nat} {w w' : World} (h : Bel B g w w') (hg : B0 ≤ g) (hb : B0 ≤ B) : Below B0 w w' := ⟨h.os, h.tape, h.output, h.size, fun k hk => h.block k (by omega) (by omega)⟩
/-- The clusters of the law, as they lie while it runs. -/
structure LawAt (w : World) (bc a1 b1 g1 gB G n cap1 : Nat) (η : Int) (c' : Value) (la lb : List S31) : Prop where
  box : w.heap[bc]? = some (.cells #[.int .i64 G, .int .i64 η, c'] 24 (0, 0))
  boxa : w.heap[a1]? = some (.cells #[.int .i64 G, .int .i64 η, .slice (some ⟨g1, 0, none⟩) n cap1] 24 (0, 0))
  boxb : w.heap[b1]? = some (.cells #[.int .i64 G, .int .i64 η, .slice (some ⟨gB, 0, none⟩) n n] 24 (0, 0))
  cla : ClAt w (some ⟨g1, 0, none⟩) g1 0 la
  clb : ClAt w (some ⟨gB, 0, none⟩) gB 0 lb
theorem LawAt.below {w w' : World} {bc a1 b1 g1 gB G n cap1 : Nat} {η : Int} {c' : Value} {la lb : List S31} (h : LawAt w bc a1 b1 g1 gB G n cap1 η c' la lb) (hb : Below w.heap.size w w') : LawAt w' bc a1 b1 g1 gB G n cap1 η c' la lb :=
  ⟨(hb.block _ (blk_lt' h.box)).trans h.box, (hb.block _ (blk_lt' h.boxa)).trans h.boxa, (hb.block _ (blk_lt' h.boxb)).trans h.boxb, h.cla.below hb h.cla.bb, h.clb.below hb h.clb.bb⟩
theorem two_of {n x G y hold : Nat} {la lb : List S31} (hk : ClOk G hold la) (hn : n ≤ 6) (hla : la.length = n) (hlb : lb.length = n) (hx : 0 < n → x < n) (hx2 : x ≤ 1000) (hy : y < G) (h : ∀ i s, i < n → la[i]? = some s → ∃ s', lb[rot n x i]? = some s' ∧ SlT G y s s') : Two n x G y hold la lb := by
  have hcl : ClT n x G y la lb := ⟨hla, hlb, fun i a hi => h i a (by have := (List.getElem?_eq_some_iff.1 hi).1; omega) hi⟩
  have g0 := hk.G0
  have g1 := hk.G1
  refine ⟨by omega, by omega, by omega, hx, hx2, hy, hcl, hk, ⟨hk.G0, hk.G1, hk.H0, hk.H1, by omega, fun s' hs' => ?_⟩⟩
  obtain ⟨j, hj⟩ := List.mem_iff_getElem?.1 hs'
  obtain ⟨i, a, hi, rfl, ha, ht⟩ := hcl.back hx hj
  have h0 := hk.nd a (List.mem_of_getElem? ha)
  unfold nodeB at h0 ⊢
  rw [ht.f1, ht.f2, ht.f3, ht.f4]
  have hb := ht.gr.bd
  simp only [Bool.and_eq_true, win_iff, Int.toNat_natCast] at h0 ⊢
  exact ⟨⟨hb.1, by have := hb.2; omega⟩, h0.2⟩
theorem take_tu (n x G y : Nat) (ls : List Ng) (k : Nat) (q : Ng) (hq : ls[k]? = some q) : ((ls.take (k + 1)).map (tuNg n x G y)).flatMap Ng.cells = ((ls.take k).map (tuNg n x G y)).flatMap Ng.cells ++ (tuNg n x G y q).cells := by
  rw [take_succ' _ _ _ hq, List.map_append, List.map_cons, List.map_nil, List.flatMap_append]
  simp
theorem around_int {n x : Nat} {i : Int} (hn : n ≤ 16) (hx : x ≤ 1000) (h0 : 0 ≤ i) (h1 : i < n) : ignitiontop_around.f i x n = some ((rot n x i.toNat : Nat) : Int) := by
  obtain ⟨j, rfl⟩ := Int.eq_ofNat_of_zero_le h0
  rw [Int.toNat_natCast]
  exact around_eq (by omega) (by omega) hx (by omega)
theorem own_belowL {w w' : World} {base n size : Nat} {e : TypeId} {v : Value} {xs : List Value} (h : w.ownsRow base e size v n xs) (hb : Below w.heap.size w w') : w'.ownsRow base e size v n xs :=
  h.kept (row := none) ⟨hb.os, hb.tape, hb.output, hb.size, fun k hk _ => hb.block k hk⟩ (by
    cases v.ownBlock with
    | none => exact .inl rfl
    | some k => exact .inr (by simp))
theorem tu_arg (n x G y : Nat) (q : Ng) (c2 : Bool) (h : decide ((q.kind = 1 ∨ q.kind = 2) ∧ 0 ≤ q.arg ∧ q.arg < G) = c2) :
    (tuNg n x G y q).arg = if decide (q.kind = 4 ∧ 0 ≤ q.arg ∧ q.arg < n) = true then ((rot n x q.arg.toNat : Nat) : Int) else if c2 = true then ((rot G y q.arg.toNat : Nat) : Int) else q.arg := by
  subst h
  unfold tuNg
  simp only [decide_eq_true_eq]
  split
  · rename_i h1
    rw [if_neg (fun h => by omega)]
  · rfl
theorem playR_len {G H T : Int} {l : List S31} {ls : List Ng} (h : T ≤ 1000) : (playR G H T l ls).1.length ≤ 1000 := by
  unfold playR
  split
  · have : ∀ (H : Int) (G : Nat) (ls : List Ng) (ns : List Nd) (T : Nat), (rowsL H G ls ns T).length = T := fun H G ls ns T => by unfold rowsL; simp
    dsimp only
    rw [this]
    omega
  · simp
theorem askR_len {G H T : Int} {l : List S31} {ls : List Ng} (h : T ≤ 1000) : (askR G H T l ls).1.length ≤ 1000 := by
  unfold askR
  split
  · have : ∀ (H : Int) (G : Nat) (ls : List Ng) (ns : List Nd) (T : Nat), (askedL H G ls ns T).length = T := fun H G ls ns T => by unfold askedL; simp
    dsimp only
    rw [this]
    omega
  · simp
end Go.Proofs.Ytiglkpgoakibaab
