/- Memory words for the walks of the package sleep: nodes in a play, their cells in a row. No condition. -/
import Derived.Test.YtiglkpgoakibaabPTopRegroupedx0
import Derived.Lib.Hide
import Derived.WalkKit
import Derived.Deep.WholeRow
namespace Go.Proofs.Ytiglkpgoakibaab
open Go.RowKit PTopRegrouped

/-- A node in a play. -/
structure Nd where
  s : S31
  asks : Int
  tm : List Int
  tok : Int
  aw : Bool

def Nd.cells (x : Nd) : List Value :=
  .int .i64 x.s.f0 :: .int .i64 x.s.f1 :: .int .i64 x.s.f2 :: .int .i64 x.s.f3 :: .int .i64 x.s.f4 :: .int .i64 x.asks :: (x.tm.map (Value.int .i64) ++ [.int .i64 x.tok, .bool x.aw])

theorem Nd.cells_length {x : Nd} (h : x.tm.length = 9) : x.cells.length = 17 := by simp [Nd.cells, h]

def ndCells (ns : List Nd) : List Value := ns.flatMap Nd.cells

def Nine (ns : List Nd) : Prop := ∀ x ∈ ns, x.tm.length = 9

theorem Nine.get {ns : List Nd} (h : Nine ns) {i : Nat} {x : Nd} (hi : ns[i]? = some x) : x.tm.length = 9 := h x (List.mem_of_getElem? hi)
theorem Nine.set {ns : List Nd} (h : Nine ns) (i : Nat) {x : Nd} (hx : x.tm.length = 9) : Nine (ns.set i x) := fun y hy => by
  rcases List.mem_or_eq_of_mem_set hy with hy | rfl
  · exact h y hy
  · exact hx
theorem Nine.tail {x : Nd} {ns : List Nd} (h : Nine (x :: ns)) : Nine ns := fun y hy => h y (List.mem_cons_of_mem _ hy)

theorem ndCells_length {ns : List Nd} (h : Nine ns) : (ndCells ns).length = ns.length * 17 := by
  induction ns with
  | nil => rfl
  | cons x ns ih =>
    have hx := Nd.cells_length (h x List.mem_cons_self)
    have := ih h.tail
    simp only [ndCells, List.flatMap_cons, List.length_append, List.length_cons] at this ⊢
    omega

theorem ndCells_get {ns : List Nd} (h : Nine ns) (i j : Nat) (hj : j < 17) (x : Nd) (hx : ns[i]? = some x) : (ndCells ns)[i * 17 + j]? = x.cells[j]? := by
  induction ns generalizing i with
  | nil => simp at hx
  | cons y ns ih =>
    have hy := Nd.cells_length (h y List.mem_cons_self)
    simp only [ndCells, List.flatMap_cons]
    cases i with
    | zero =>
      simp only [List.getElem?_cons_zero, Option.some.injEq] at hx
      subst hx
      rw [List.getElem?_append_left (by omega)]
      simp
    | succ i =>
      simp only [List.getElem?_cons_succ] at hx
      rw [List.getElem?_append_right (by omega), hy]
      have e : (i + 1) * 17 + j - 17 = i * 17 + j := by omega
      rw [e]
      exact ih h.tail i hx

theorem ndCells_set {ns : List Nd} (h : Nine ns) (i j : Nat) (hj : j < 17) (x x' : Nd) (v : Value) (hx : ns[i]? = some x) (hc : x.cells.set j v = x'.cells) :
    (ndCells ns).set (i * 17 + j) v = ndCells (ns.set i x') := by
  induction ns generalizing i with
  | nil => simp at hx
  | cons y ns ih =>
    have hy := Nd.cells_length (h y List.mem_cons_self)
    simp only [ndCells, List.flatMap_cons]
    cases i with
    | zero =>
      simp only [List.getElem?_cons_zero, Option.some.injEq] at hx
      subst hx
      rw [List.set_append_left _ _ (by omega)]
      simp only [Nat.zero_mul, Nat.zero_add, hc, List.set_cons_zero, List.flatMap_cons]
    | succ i =>
      simp only [List.getElem?_cons_succ] at hx
      rw [List.set_append_right _ _ (by omega), hy]
      have e : (i + 1) * 17 + j - 17 = i * 17 + j := by omega
      rw [e]
      have := ih h.tail i hx
      simp only [ndCells] at this
      rw [this]
      simp only [List.set_cons_succ, List.flatMap_cons]

theorem blk_cell' {w : World} {b : Nat} {cs : Array Value} {t : TypeId} (h : w.heap[b]? = some (.cells cs t (0, 0))) (i : Nat) : w.cell? ⟨b, i, none⟩ = cs[i]? := by
  simp [World.cell?, h]
theorem blk_frozen' {w : World} {b : Nat} {cs : Array Value} {t : TypeId} (h : w.heap[b]? = some (.cells cs t (0, 0))) (i : Nat) : w.frozen? ⟨b, i, none⟩ = false := by
  simp [World.frozen?, h]
theorem blk_lt' {w : World} {b : Nat} {o : Obj} (h : w.heap[b]? = some o) : b < w.heap.size := (Array.getElem?_eq_some_iff.1 h).1

section
variable {P : Program} {ops : Array Oper} {rest : List Oper} {o : Oper} {a : Act} {w : World} {Q : Exit → Act → World → Prop}
/-- An operation whose run is known, in a plain region. -/
theorem wpList_run (hgd : o.guard = none) {v : Value} {w1 : World} (hrun : (execOp a.eval o).run P w = .ok (.value v) w1) (h : wpList P ops Q rest (a.put o.dst v) w1) : wpList P ops Q (o :: rest) a w :=
  wpList_plain hgd fun K hK => by
    unfold Oper.wp
    rw [hrun]
    exact hK _ _ h
theorem run_loadVar_list (w : World) (a : Addr) (ty : TypeId) (l : List Value) (d : TypeDesc)
    (hu : P.underlying ty = some d) (hd : (match d with | .struct _ | .array _ _ => true | _ => false) = true) (hi : (P.info? ty).map (·.size) = some l.length)
    (hc : ∀ j v, l[j]? = some v → w.cell? (a.add j) = some v) : (loadVar ty a).run P w = .ok (.agg l.toArray) w := by
  have hl : (loadCells a l.length).run P w = .ok l.toArray w := run_loadCells_list (P := P) w a l hc
  cases hq : P.info? ty with
  | none => simp [hq] at hi
  | some i =>
    have hs : i.size = l.length := by simpa [hq] using hi
    have hagg : (isAgg ty).run P w = .ok true w := by
      unfold isAgg
      rw [Sem.run_bind, run_underlying hu w]
      cases d <;> simp_all
    simp [loadVar, Sem.run_bind, hagg, sizeOf, typeInfo, hq, hs, hl]
/-- A whole struct or array is loaded. -/
theorem wpList_load_list (hgd : o.guard = none) (ty : TypeId) (x : Operand) (ho : o.op = .load ty x)
    (ad : Addr) (hx : a.eval x = .pointer (some ad)) (l : List Value) (n : Nat) (hl : l.length = n) (d : TypeDesc)
    (hu : P.underlying ty = some d) (hd : (match d with | .struct _ | .array _ _ => true | _ => false) = true) (hi : (P.info? ty).map (·.size) = some n)
    (hc : ∀ j v, l[j]? = some v → w.cell? (ad.add j) = some v) (h : wpList P ops Q rest (a.put o.dst (.agg l.toArray)) w) : wpList P ops Q (o :: rest) a w :=
  wpList_plain hgd fun K hK => by
    subst hl
    unfold Oper.wp execOp
    simp only [ho, hx, Instr.loadAt, Instr.sureAddr, Sem.run_bind, Sem.run_pure, Result.andThen_ok, run_loadVar_list w ad ty l d hu hd hi hc]
    exact hK _ _ h
theorem run_index_list (w : World) (ty e : TypeId) (n : Nat) (l : List Value) (k : IntKind) (i : Nat) (v : Value) (hu : P.underlying ty = some (.array n e)) (hlen : l.length = n)
    (hag : (isAgg e).run P w = .ok false w) (hsz : (sizeOf e).run P w = .ok 1 w) (hv : l[i]? = some v) : (Instr.index ty (.agg l.toArray) (.int k i)).run P w = .ok v w := by
  have hi := (List.getElem?_eq_some_iff.1 hv).1
  have hlt : ((0 : Int) ≤ (i : Int) ∧ (i : Int) < (n : Int)) := by omega
  unfold Instr.index
  simp only [asIntOf, Sem.run_bind, Sem.run_pure, Result.andThen_ok, run_underlying hu w, if_pos hlt, hsz, part, hag, Bool.false_eq_true, if_false, Int.toNat_natCast, Nat.mul_one, List.getElem?_toArray, hv]
/-- An element of an array in a slot. -/
theorem wpList_index_list (hgd : o.guard = none) (ty : TypeId) (x ix : Operand) (ho : o.op = .index ty x ix) (e : TypeId) (n : Nat) (l : List Value) (k : IntKind) (i : Nat) (v : Value)
    (hx : a.eval x = .agg l.toArray) (hix : a.eval ix = .int k i) (hu : P.underlying ty = some (.array n e)) (hlen : l.length = n)
    (hag : (isAgg e).run P w = .ok false w) (hsz : (sizeOf e).run P w = .ok 1 w) (hv : l[i]? = some v) (h : wpList P ops Q rest (a.put o.dst v) w) : wpList P ops Q (o :: rest) a w :=
  wpList_plain hgd fun K hK => by
    unfold Oper.wp execOp
    simp only [ho, hx, hix, Sem.run_bind, run_index_list w ty e n l k i v hu hlen hag hsz hv, Result.andThen_ok, Sem.run_pure]
    exact hK _ _ h
/-- A whole new block is stored into. -/
theorem wpList_store_new (hgd : o.guard = none) (ty : TypeId) (x y : Operand) (ho : o.op = .store ty x y) (w0 : World) (c c' : Array Value) (hw : w = w0.alloc (.cells c ty)) (hx : a.eval x = .pointer (some ⟨w0.heap.size, 0, none⟩)) (hy : a.eval y = .agg c')
    (hi : (P.info? ty).map (·.size) = some c'.size) (hs : c.size = c'.size) (h1 : c'.all (·.oneCell') = true) (h : wpList P ops Q rest (a.put o.dst undef) (w0.alloc (.cells c' ty))) : wpList P ops Q (o :: rest) a w :=
  wpList_plain hgd fun K hK => by
    subst hw
    unfold Oper.wp execOp
    simp only [ho, hx, hy, Sem.run_bind, run_storeAt_new w0 ty c c' hi hs h1, Result.andThen_ok, Sem.run_pure]
    exact hK _ _ h
/-- A new variable of a type whose zero value is known. -/
theorem wpList_alloc_zero (hgd : o.guard = none) (ty : TypeId) (ho : o.op = .alloc ty) (cs : Array Value) (hz : ∀ w, (zeroValue ty).run P w = .ok (.agg cs) w)
    (h : wpList P ops Q rest (a.put o.dst (.pointer (some ⟨w.heap.size, 0, none⟩))) (w.alloc (.cells cs ty))) : wpList P ops Q (o :: rest) a w :=
  wpList_plain hgd fun K hK => by
    unfold Oper.wp execOp
    simp [ho, go_sem, hz]
    exact hK _ _ h
end
theorem add_off (b n j : Nat) : (⟨b, n, none⟩ : Addr).add j = ⟨b, n + j, none⟩ := by
  unfold Addr.add
  split <;> simp_all

end Go.Proofs.Ytiglkpgoakibaab
