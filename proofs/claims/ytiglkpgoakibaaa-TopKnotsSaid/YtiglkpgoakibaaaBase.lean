/- Memory words for the walks of the package options: maps that are sound, the forest of knots. No condition beyond those named. -/
import Derived.Test.YtiglkpgoakibaaaPTopKnotsx0
import Derived.Test.YtiglkpgoakibaaaSem
import Derived.Lib.Hide
import Derived.WalkKit
import Derived.Deep.WholeRow
import Derived.DeepKeys4
import Derived.Maps.OwnSet
import Derived.Maps.Views
namespace Go.Proofs.Ytiglkpgoakibaaa
open Go.RowKit Go.Maps PTopKnots Go.Proofs.YtiglkpgoakibaaaW.PrintWords
set_option linter.unusedVariables false
set_option linter.unusedSimpArgs false

theorem blk_cell' {w : World} {b : Nat} {cs : Array Value} {t : TypeId} (h : w.heap[b]? = some (.cells cs t (0, 0))) (i : Nat) : w.cell? ⟨b, i, none⟩ = cs[i]? := by
  simp [World.cell?, h]
theorem blk_frozen' {w : World} {b : Nat} {cs : Array Value} {t : TypeId} (h : w.heap[b]? = some (.cells cs t (0, 0))) (i : Nat) : w.frozen? ⟨b, i, none⟩ = false := by
  simp [World.frozen?, h]
theorem blk_lt' {w : World} {b : Nat} {o : Obj} (h : w.heap[b]? = some o) : b < w.heap.size := (Array.getElem?_eq_some_iff.1 h).1

section
variable {P : Program} {ops : Array Oper} {rest : List Oper} {o : Oper} {a : Act} {w : World} {Q : Exit → Act → World → Prop}
/-- An operation whose run is known, in a plain region. -/
theorem wpList_run (hgd : o.guard = none) {v : Value} {w1 : World} (hrun : (execOp a.eval o).run P w = .ok (.value v) w1) (h : wpList P ops Q rest (a.put o.dst v) w1) : wpList P ops Q (o :: rest) a w :=
  wpList_plain hgd fun K hK => by
    unfold Oper.wp
    rw [hrun]
    exact hK _ _ h
theorem run_loadVar_list (w : World) (a : Addr) (ty : TypeId) (l : List Value) (d : TypeDesc)
    (hu : P.underlying ty = some d) (hd : (match d with | .struct _ | .array _ _ => true | _ => false) = true) (hi : (P.info? ty).map (·.size) = some l.length)
    (hc : ∀ j v, l[j]? = some v → w.cell? (a.add j) = some v) : (loadVar ty a).run P w = .ok (.agg l.toArray) w := by
  have hl : (loadCells a l.length).run P w = .ok l.toArray w := run_loadCells_list (P := P) w a l hc
  cases hq : P.info? ty with
  | none => simp [hq] at hi
  | some i =>
    have hs : i.size = l.length := by simpa [hq] using hi
    have hagg : (isAgg ty).run P w = .ok true w := by
      unfold isAgg
      rw [Sem.run_bind, run_underlying hu w]
      cases d <;> simp_all
    simp [loadVar, Sem.run_bind, hagg, sizeOf, typeInfo, hq, hs, hl]
/-- A whole struct or array is loaded. -/
theorem wpList_load_list (hgd : o.guard = none) (ty : TypeId) (x : Operand) (ho : o.op = .load ty x)
    (ad : Addr) (hx : a.eval x = .pointer (some ad)) (l : List Value) (n : Nat) (hl : l.length = n) (d : TypeDesc)
    (hu : P.underlying ty = some d) (hd : (match d with | .struct _ | .array _ _ => true | _ => false) = true) (hi : (P.info? ty).map (·.size) = some n)
    (hc : ∀ j v, l[j]? = some v → w.cell? (ad.add j) = some v) (h : wpList P ops Q rest (a.put o.dst (.agg l.toArray)) w) : wpList P ops Q (o :: rest) a w :=
  wpList_plain hgd fun K hK => by
    subst hl
    unfold Oper.wp execOp
    simp only [ho, hx, Instr.loadAt, Instr.sureAddr, Sem.run_bind, Sem.run_pure, Result.andThen_ok, run_loadVar_list w ad ty l d hu hd hi hc]
    exact hK _ _ h
theorem run_index_list (w : World) (ty e : TypeId) (n : Nat) (l : List Value) (k : IntKind) (i : Nat) (v : Value) (hu : P.underlying ty = some (.array n e)) (hlen : l.length = n)
    (hag : (isAgg e).run P w = .ok false w) (hsz : (sizeOf e).run P w = .ok 1 w) (hv : l[i]? = some v) : (Instr.index ty (.agg l.toArray) (.int k i)).run P w = .ok v w := by
  have hi := (List.getElem?_eq_some_iff.1 hv).1
  have hlt : ((0 : Int) ≤ (i : Int) ∧ (i : Int) < (n : Int)) := by omega
  unfold Instr.index
  simp only [asIntOf, Sem.run_bind, Sem.run_pure, Result.andThen_ok, run_underlying hu w, if_pos hlt, hsz, part, hag, Bool.false_eq_true, if_false, Int.toNat_natCast, Nat.mul_one, List.getElem?_toArray, hv]
/-- An element of an array in a slot. -/
theorem wpList_index_list (hgd : o.guard = none) (ty : TypeId) (x ix : Operand) (ho : o.op = .index ty x ix) (e : TypeId) (n : Nat) (l : List Value) (k : IntKind) (i : Nat) (v : Value)
    (hx : a.eval x = .agg l.toArray) (hix : a.eval ix = .int k i) (hu : P.underlying ty = some (.array n e)) (hlen : l.length = n)
    (hag : (isAgg e).run P w = .ok false w) (hsz : (sizeOf e).run P w = .ok 1 w) (hv : l[i]? = some v) (h : wpList P ops Q rest (a.put o.dst v) w) : wpList P ops Q (o :: rest) a w :=
  wpList_plain hgd fun K hK => by
    unfold Oper.wp execOp
    simp only [ho, hx, hix, Sem.run_bind, run_index_list w ty e n l k i v hu hlen hag hsz hv, Result.andThen_ok, Sem.run_pure]
    exact hK _ _ h
/-- A whole new block is stored into. -/
theorem wpList_store_new (hgd : o.guard = none) (ty : TypeId) (x y : Operand) (ho : o.op = .store ty x y) (w0 : World) (c c' : Array Value) (hw : w = w0.alloc (.cells c ty)) (hx : a.eval x = .pointer (some ⟨w0.heap.size, 0, none⟩)) (hy : a.eval y = .agg c')
    (hi : (P.info? ty).map (·.size) = some c'.size) (hs : c.size = c'.size) (h1 : c'.all (·.oneCell') = true) (h : wpList P ops Q rest (a.put o.dst undef) (w0.alloc (.cells c' ty))) : wpList P ops Q (o :: rest) a w :=
  wpList_plain hgd fun K hK => by
    subst hw
    unfold Oper.wp execOp
    simp only [ho, hx, hy, Sem.run_bind, run_storeAt_new w0 ty c c' hi hs h1, Result.andThen_ok, Sem.run_pure]
    exact hK _ _ h
/-- A new variable of a type whose zero value is known. -/
theorem wpList_alloc_zero (hgd : o.guard = none) (ty : TypeId) (ho : o.op = .alloc ty) (cs : Array Value) (hz : ∀ w, (zeroValue ty).run P w = .ok (.agg cs) w)
    (h : wpList P ops Q rest (a.put o.dst (.pointer (some ⟨w.heap.size, 0, none⟩))) (w.alloc (.cells cs ty))) : wpList P ops Q (o :: rest) a w :=
  wpList_plain hgd fun K hK => by
    unfold Oper.wp execOp
    simp [ho, go_sem, hz]
    exact hK _ _ h
end
theorem add_off (b n j : Nat) : (⟨b, n, none⟩ : Addr).add j = ⟨b, n + j, none⟩ := by
  unfold Addr.add
  split <;> simp_all

/-- A region leaves no way but straight on. -/
def calmQ (Q : Exit → Act → World → Prop) : Exit → Act → World → Prop
  | .normal, a, w => Q .normal a w
  | _, _, _ => False
theorem wp_calm {P : Program} {c : Code} {Q : Exit → Act → World → Prop} {a : Act} {w : World} (h : c.wp P (calmQ Q) a w) : c.wp P Q a w :=
  Code.wp_mono (fun e _ _ q => by cases e <;> first | exact q | exact q.elim) h
theorem calm_normal {Q : Exit → Act → World → Prop} {a : Act} {w : World} (h : Q .normal a w) : calmQ Q .normal a w := h

theorem allocNew (w : World) (o : Obj) (k : Nat) (hk : k = w.heap.size) : (w.alloc o).heap[k]? = some o := by rw [hk]; exact heap_alloc_new w o
theorem allocOld {w : World} {k : Nat} {o' : Obj} (h : w.heap[k]? = some o') (o : Obj) : (w.alloc o).heap[k]? = some o' := (Below.heap_alloc w o k (blk_lt' h)).trans h
theorem below_at {B : Nat} {w w' : World} (h : Below B w w') {k o : Nat} (hk : k < B) : w'.cell? ⟨k, o, none⟩ = w.cell? ⟨k, o, none⟩ := h.cell (p := ⟨k, o, none⟩) hk
theorem own_below {w w' : World} {base n size : Nat} {e : TypeId} {v : Value} {xs : List Value} (h : w.ownsRow base e size v n xs) (hb : Below w.heap.size w w') : w'.ownsRow base e size v n xs :=
  h.kept (row := none) ⟨hb.os, hb.tape, hb.output, hb.size, fun k hk _ => hb.block k hk⟩ (by
    cases v.ownBlock with
    | none => exact .inl rfl
    | some k => exact .inr (by simp))

/-! ### keys of three whole numbers -/
@[reducible] def k3V (a b c : Int) : Value := .agg #[.int .i64 a, .int .i64 b, .int .i64 c]
def k3L (a b c : Int) : Lit := .string (keyBytes [.int .i64 a, .int .i64 b, .int .i64 c])
theorem law71 : Keyed Try.prog 71 := Keyed.of_law (deep_law_laid (by kernel_rfl) (m := 3) (by decide) (by decide) (by kernel_rfl) (by kernel_rfl))
theorem law84 : Keyed Try.prog 84 := Keyed.of_law (deep_law_laid (by kernel_rfl) (m := 3) (by decide) (by decide) (by kernel_rfl) (by kernel_rfl))
theorem law3 : Keyed Try.prog 3 := int_keyed Try.underlying3
def Sm (a : Int) : Prop := -1000 ≤ a ∧ a ≤ 1099511627776
theorem Sm.nat {n : Nat} (h : n ≤ 1099511627776) : Sm (n : Int) := ⟨by omega, by omega⟩
theorem Sm.wf {a : Int} (h : Sm a) : (Lit.int .i64 a).wf = true := by unfold Sm at h; exact WalkArith.wf_i64 (by omega)
theorem k3_71 {a b c : Int} (ha : Sm a) (hb : Sm b) (hc : Sm c) : keyOf Try.prog 71 (k3V a b c) = some (k3L a b c) := by
  have h1 : Try.prog.keyType 71 = true := by kernel_rfl
  have w1 := ha.wf
  have w2 := hb.wf
  have w3 := hc.wf
  obtain ⟨m, hm⟩ : ∃ m, Try.prog.types.size = m + 1 := ⟨_, rfl⟩
  have hcl : Try.prog.cellsOf 71 = 3 := by kernel_rfl
  have hc3 : Try.prog.cellsOf 3 = 1 := by kernel_rfl
  unfold keyOf
  simp only [Try.underlying71]
  rw [if_pos (by simp [h1, Value.formed, Try.underlying71, hcl, k3V]), hm]
  unfold Program.keyLits
  simp only [Try.underlying71, k3V, Value.cells]
  rw [if_pos (by simp [hcl])]
  simp [hc3, Program.keyLits, Try.underlying3, w1, w2, w3, k3L]
theorem k3_84 {a b c : Int} (ha : Sm a) (hb : Sm b) (hc : Sm c) : keyOf Try.prog 84 (k3V a b c) = some (k3L a b c) := by
  have h1 : Try.prog.keyType 84 = true := by kernel_rfl
  have w1 := ha.wf
  have w2 := hb.wf
  have w3 := hc.wf
  obtain ⟨m, hm⟩ : ∃ m, Try.prog.types.size = m + 1 := ⟨_, rfl⟩
  have hcl : Try.prog.cellsOf 84 = 3 := by kernel_rfl
  have hc3 : Try.prog.cellsOf 3 = 1 := by kernel_rfl
  unfold keyOf
  simp only [Try.underlying84]
  rw [if_pos (by simp [h1, Value.formed, Try.underlying84, hcl, k3V]), hm]
  unfold Program.keyLits
  simp only [Try.underlying84, k3V, Value.cells]
  rw [if_pos (by simp [hcl])]
  simp [hc3, Program.keyLits, Try.underlying3, w1, w2, w3, k3L]
theorem k3L_inj {a b c a' b' c' : Int} (ha : Sm a) (hb : Sm b) (hc : Sm c) (ha' : Sm a') (hb' : Sm b') (hc' : Sm c') (h : k3L a b c = k3L a' b' c') : a = a' ∧ b = b' ∧ c = c' := by
  have h1 := k3_71 ha hb hc
  have h2 := k3_71 ha' hb' hc'
  rw [h] at h1
  have := law71.inj h1 h2
  simp only [k3V, Value.agg.injEq, Array.mk.injEq, List.cons.injEq, Value.int.injEq, true_and, and_true] at this
  exact this

/-! ### a map of whole numbers that is sound: whatever it holds of a key is told by S; it holds at most c -/
def Sound (w : World) (T : TypeId) (mb c : Nat) (S : Lit → Int → Prop) : Prop :=
  ∃ (n : Nat) (D : DataW Unit), w.ownsMap Try.prog T (plainElem Try.prog 3) mb n D ∧ size D ≤ c ∧ ∀ k, has D k = true → ∃ x : Int, D.atKey k (.lit (.int .i64 0)) = .lit (.int .i64 x) ∧ S k x
theorem own_exact {T : TypeId} {w : World} {mb n : Nat} {D : DataW Unit} (h : w.ownsMap Try.prog T (plainElem Try.prog 3) mb n D) : w.ownsMap Try.prog T (plainElem Try.prog 3) mb (size D) D := by
  obtain ⟨es, clock, hb, F, hs, rfl⟩ := h
  refine ⟨es, clock, hb, F, ?_, rfl⟩
  simp [size, length_sorted]
section
variable {w w' : World} {T : TypeId} {mb c : Nat} {S : Lit → Int → Prop}
theorem Sound.made (w : World) (T : TypeId) (S : Lit → Int → Prop) : Sound (w.alloc (.map #[] 0)) T w.heap.size 0 S :=
  ⟨0, .map [], World.ownsMap_made _ _ _ _, by simp [size], fun k h => by simp [has] at h⟩
theorem Sound.kept {row : Option Nat} (h : Sound w T mb c S) (hg : w.grownBy w' row) (hne : some mb ≠ row) : Sound w' T mb c S := by
  obtain ⟨n, D, h1, h2, h3⟩ := h
  exact ⟨n, D, h1.kept hg hne, h2, h3⟩
theorem Sound.same (h : Sound w T mb c S) (he : w'.heap[mb]? = w.heap[mb]?) : Sound w' T mb c S := by
  obtain ⟨n, D, ⟨es, clock, hb, F, hs, hD⟩, h2, h3⟩ := h
  exact ⟨n, D, ⟨es, clock, he.trans hb, F, hs, hD⟩, h2, h3⟩
theorem Sound.lt (h : Sound w T mb c S) : mb < w.heap.size := by
  obtain ⟨n, D, h1, _⟩ := h
  exact h1.lt
theorem Sound.imp {S' : Lit → Int → Prop} {c' : Nat} (h : Sound w T mb c S) (hc : c ≤ c') (hS : ∀ k x, S k x → S' k x) : Sound w T mb c' S' := by
  obtain ⟨n, D, h1, h2, h3⟩ := h
  exact ⟨n, D, h1, by omega, fun k hk => by obtain ⟨x, a, b⟩ := h3 k hk; exact ⟨x, a, hS k x b⟩⟩
theorem int_of {v : Value} {d : DataW Unit} {ps : List MemPlace} (h : plainElem Try.prog 3 v = some (d, ps)) : ∃ x, v = .int .i64 x ∧ d = .lit (.int .i64 x) := by
  unfold plainElem at h
  rw [Try.underlying3] at h
  split at h
  · rename_i h1; cases h1
  · rename_i q q' a h1
    cases h1
    split at h
    · rename_i hc
      obtain ⟨rfl, _⟩ := hc
      simp only [Option.some.injEq, Prod.mk.injEq] at h
      exact ⟨_, rfl, h.1.symm⟩
    · cases h
  · rename_i h1; cases h1
  · cases h
theorem Sound.look (h : Sound w T mb c S) {mt : TypeId} (law : Keyed Try.prog T) (hu : Try.prog.underlying mt = some (.map T 3)) (hz : ∀ w, (zeroValue 3).run Try.prog w = .ok (.int .i64 0) w) {kv : Value} {k : Lit} (hk : keyOf Try.prog T kv = some k) :
    ∃ (x : Int) (b : Bool), (∀ w' : World, w'.heap[mb]? = w.heap[mb]? → (Instr.lookup mt (.map (some mb)) kv true).run Try.prog w' = .ok (.tuple #[.int .i64 x, .bool b]) w') ∧ (b = true → S k x) := by
  obtain ⟨n, D, h1, h2, h3⟩ := h
  have hz0 : plainElem (H := Unit) Try.prog 3 (.int .i64 0) = some (.lit (.int .i64 0), []) := plainElem_int Try.underlying3 (by decide)
  obtain ⟨v, ps, hr, hv⟩ := h1.look_ok law hu (hz w) hz0 hk
  obtain ⟨x, rfl, hx⟩ := int_of hv
  refine ⟨x, has D k, fun w' he => ?_, fun hb => ?_⟩
  · obtain ⟨es, clock, hb, Fi, hs, hD⟩ := h1
    have h1' : w'.ownsMap Try.prog T (plainElem Try.prog 3) mb n D := ⟨es, clock, he.trans hb, Fi, hs, hD⟩
    obtain ⟨v', ps', hr', hv'⟩ := h1'.look_ok law hu (hz w') hz0 hk
    obtain ⟨x', rfl, hx'⟩ := int_of hv'
    have := hx.symm.trans hx'
    simp only [DataW.lit.injEq, Lit.int.injEq, true_and] at this
    rw [hr', this]
  · obtain ⟨y, hy, hS⟩ := h3 k hb
    have := hx.symm.trans hy
    simp only [DataW.lit.injEq, Lit.int.injEq, true_and] at this
    rw [this]
    exact hS
theorem Sound.store (h : Sound w T mb c S) (hc : c ≤ 1099511627776) {mt : TypeId} (law : Keyed Try.prog T) (hu : Try.prog.underlying mt = some (.map T 3)) {kv : Value} {k : Lit} (hk : keyOf Try.prog T kv = some k) {x : Int} (hx : (Lit.int .i64 x).wf = true) (hS : S k x) :
    ∃ w', (Instr.mapUpdate mt (.map (some mb)) kv (.int .i64 x)).run Try.prog w = .ok () w' ∧ Sound w' T mb (c + 1) S ∧ w.grownBy w' (some mb) := by
  obtain ⟨n, D, h1, h2, h3⟩ := h
  have hT := h1.tidy law
  have hM := h1.isMap
  have hkl : WideAt.IsKeyLit k := law.key hk
  obtain ⟨w', hr, hown, hg⟩ := (own_exact h1).update law hu (by unfold maxLen; omega) hk (plainElem_int (H := Unit) Try.underlying3 hx)
  refine ⟨w', hr, ⟨_, _, hown, ?_, fun k' hk' => ?_⟩, hg⟩
  · rw [size_put hT]
    split <;> omega
  · by_cases he : k' = k
    · subst he
      exact ⟨x, atKey_put_same hM hkl _ _, hS⟩
    · rw [has_put_other he] at hk'
      rw [atKey_put_other he]
      exact h3 k' hk'
end

/-! ### the forest -/
def kcl (k : Kn) : List Value := [.int .i64 k.o, .int .i64 k.l, .int .i64 k.h]
theorem kcl_len (K : List Kn) : (K.flatMap kcl).length = K.length * 3 := by
  induction K with
  | nil => rfl
  | cons k K ih => simp only [List.flatMap_cons, List.length_append, ih, List.length_cons, kcl, List.length_nil]; omega
theorem kcl_at (K : List Kn) (i j : Nat) (hj : j < 3) (k : Kn) (hk : K[i]? = some k) : (K.flatMap kcl)[i * 3 + j]? = (kcl k)[j]? := by
  induction K generalizing i with
  | nil => simp at hk
  | cons y K ih =>
    have hy : (kcl y).length = 3 := rfl
    simp only [List.flatMap_cons]
    cases i with
    | zero =>
      simp only [List.getElem?_cons_zero, Option.some.injEq] at hk
      subst hk
      rw [List.getElem?_append_left (by omega)]
      simp
    | succ i =>
      simp only [List.getElem?_cons_succ] at hk
      rw [List.getElem?_append_right (by omega), hy, show (i + 1) * 3 + j - 3 = i * 3 + j by omega]
      exact ih i hk
/-- Where a forest lies: its block, the knots' row and capacity, the two maps. -/
structure Fb where
  p : Nat
  kb : Nat
  cap : Nat
  mb : Nat
  jb : Nat
def opB (op : Int) (a b : Bool) : Bool := if op = -4 then a && b else if op = -5 then a || b else a == b
def KS (K : List Kn) (k : Lit) (x : Int) : Prop := ∀ o l h : Nat, o ≤ 1099511627776 → l ≤ 1099511627776 → h ≤ 1099511627776 → k = k3L o l h → ∃ n : Nat, x = n ∧ K[n]? = some ⟨o, l, h⟩
def JS (K : List Kn) (k : Lit) (x : Int) : Prop := ∀ (op : Int) (a b : Nat), Sm op → a ≤ 1099511627776 → b ≤ 1099511627776 → k = k3L op a b → ∃ n : Nat, x = n ∧ a < K.length ∧ b < K.length ∧ n < K.length ∧ min (lv K a) (lv K b) ≤ lv K n ∧ ∀ v, ev K n v = opB op (ev K a v) (ev K b v)
structure Fo (w : World) (F : Fb) (N : Nat) (K : List Kn) (c : Nat) : Prop where
  box : w.heap[F.p]? = some (.cells #[.int .i64 N, .slice (some ⟨F.kb, 0, none⟩) K.length F.cap, .map (some F.mb), .map (some F.jb)] 76 (0, 0))
  row : w.ownsRow 0 71 3 (.slice (some ⟨F.kb, 0, none⟩) K.length F.cap) K.length (K.flatMap kcl)
  kn : Sound w 71 F.mb c (KS K)
  jo : Sound w 84 F.jb c (JS K)
  wf : WF N K
  len : K.length ≤ c + 2
  n1 : F.p ≠ F.kb
  n2 : F.p ≠ F.mb
  n3 : F.p ≠ F.jb
  n4 : F.kb ≠ F.mb
  n5 : F.kb ≠ F.jb
  n6 : F.mb ≠ F.jb
section
variable {w w' : World} {F : Fb} {N c : Nat} {K : List Kn}
theorem Fo.pl (h : Fo w F N K c) : F.p < w.heap.size := blk_lt' h.box
theorem Fo.kl (h : Fo w F N K c) : F.kb < w.heap.size := (World.ownsRow.lt h.row F.kb rfl).2
theorem Fo.cell (h : Fo w F N K c) {n : Nat} {k : Kn} (hk : K[n]? = some k) :
    w.cell? ⟨F.kb, n * 3, none⟩ = some (.int .i64 k.o) ∧ w.cell? ⟨F.kb, n * 3 + 1, none⟩ = some (.int .i64 k.l) ∧ w.cell? ⟨F.kb, n * 3 + 2, none⟩ = some (.int .i64 k.h) := by
  have hn := (List.getElem?_eq_some_iff.1 hk).1
  refine ⟨?_, ?_, ?_⟩
  · rw [World.ownsRow.cellAt h.row _ (by omega)]; exact kcl_at K n 0 (by omega) k hk
  · rw [World.ownsRow.cellAt h.row _ (by omega)]; exact kcl_at K n 1 (by omega) k hk
  · rw [World.ownsRow.cellAt h.row _ (by omega)]; exact kcl_at K n 2 (by omega) k hk
theorem Fo.below (h : Fo w F N K c) (hb : Below w.heap.size w w') : Fo w' F N K c :=
  ⟨(hb.block _ h.pl).trans h.box, own_below h.row hb, h.kn.same (hb.block _ h.kn.lt), h.jo.same (hb.block _ h.jo.lt), h.wf, h.len, h.n1, h.n2, h.n3, h.n4, h.n5, h.n6⟩
theorem Fo.drew (h : Fo w F N K c) : Fo w.drew F N K c := h.below (Below.refl _ w).drew
theorem Fo.more {c' : Nat} (h : Fo w F N K c) (hc : c ≤ c') : Fo w F N K c' :=
  ⟨h.box, h.row, h.kn.imp hc (fun _ _ h => h), h.jo.imp hc (fun _ _ h => h), h.wf, by have := h.len; omega, h.n1, h.n2, h.n3, h.n4, h.n5, h.n6⟩
end
theorem KS.ext {K K' : List Kn} (he : Ext K K') (k : Lit) (x : Int) (h : KS K k x) : KS K' k x := fun o l hh h1 h2 h3 hk => by
  obtain ⟨n, hx, hn⟩ := h o l hh h1 h2 h3 hk
  exact ⟨n, hx, (he.get (List.getElem?_eq_some_iff.1 hn).1).trans hn⟩
theorem JS.ext {N : Nat} {K K' : List Kn} (hw : WF N K) (hw' : WF N K') (he : Ext K K') (k : Lit) (x : Int) (h : JS K k x) : JS K' k x := fun op a b h1 h2 h3 hk => by
  obtain ⟨n, hx, ha, hb, hn, hl, hev⟩ := h op a b h1 h2 h3 hk
  have hlen := he.len
  exact ⟨n, hx, by omega, by omega, by omega, by rw [he.lv ha, he.lv hb, he.lv hn]; exact hl, fun v => by rw [ev_ext hw hw' he v n hn, ev_ext hw hw' he v a ha, ev_ext hw hw' he v b hb]; exact hev v⟩
theorem grown_set (w : World) (p : Addr) (v : Value) : w.grownBy (w.setCell p v) (some p.block) := ⟨rfl, rfl, rfl, by simp [World.setCell], fun _ _ hne => Below.heap_setCell _ _ _ _ (fun e => hne (by rw [e]))⟩
theorem grown_drew {w w' : World} {r : Option Nat} (h : w.drew.grownBy w' r) : w.grownBy w' r := ⟨h.os, h.tape, h.output, h.size, h.block⟩
/-- A forest has gone on: its knots stand, there may be more; all else is as it was, but for its own blocks. -/
structure Stp (w : World) (F : Fb) (K : List Kn) (w' : World) (F' : Fb) (K' : List Kn) : Prop where
  ext : Ext K K'
  p : F'.p = F.p
  mb : F'.mb = F.mb
  jb : F'.jb = F.jb
  kb : F'.kb = F.kb ∨ w.heap.size ≤ F'.kb
  os : w'.os = w.os
  tape : w'.tape = w.tape
  output : w'.output = w.output
  size : w.heap.size ≤ w'.heap.size
  blk : ∀ b, b < w.heap.size → b ≠ F.p → b ≠ F.kb → b ≠ F.mb → b ≠ F.jb → w'.heap[b]? = w.heap[b]?
theorem Stp.refl (w : World) (F : Fb) (K : List Kn) : Stp w F K w F K := ⟨Ext.refl K, rfl, rfl, rfl, .inl rfl, rfl, rfl, rfl, Nat.le_refl _, fun _ _ _ _ _ _ => rfl⟩
theorem Stp.of_below {w w' : World} (F : Fb) (K : List Kn) (h : Below w.heap.size w w') : Stp w F K w' F K := ⟨Ext.refl K, rfl, rfl, rfl, .inl rfl, h.os, h.tape, h.output, h.size, fun b hb _ _ _ _ => h.block b hb⟩
theorem Stp.trans {w w1 w2 : World} {F F1 F2 : Fb} {K K1 K2 : List Kn} (h : Stp w F K w1 F1 K1) (g : Stp w1 F1 K1 w2 F2 K2) : Stp w F K w2 F2 K2 where
  ext := h.ext.trans g.ext
  p := g.p.trans h.p
  mb := g.mb.trans h.mb
  jb := g.jb.trans h.jb
  kb := by
    have := h.size
    rcases g.kb with e | e
    · rw [e]; exact h.kb
    · exact .inr (by omega)
  os := g.os.trans h.os
  tape := g.tape.trans h.tape
  output := g.output.trans h.output
  size := Nat.le_trans h.size g.size
  blk := fun b hb h1 h2 h3 h4 => by
    have hz := h.size
    refine (g.blk b (by omega) (by rw [h.p]; exact h1) (fun e => ?_) (by rw [h.mb]; exact h3) (by rw [h.jb]; exact h4)).trans (h.blk b hb h1 h2 h3 h4)
    rcases h.kb with e' | e'
    · exact h2 (e.trans e')
    · omega
/-- What lies apart from the forest. -/
theorem Stp.below {w w' : World} {F F' : Fb} {K K' : List Kn} (h : Stp w F K w' F' K') {B : Nat} (hB : B ≤ w.heap.size) (h1 : B ≤ F.p) (h2 : B ≤ F.kb) (h3 : B ≤ F.mb) (h4 : B ≤ F.jb) : Below B w w' :=
  ⟨h.os, h.tape, h.output, h.size, fun b hb => h.blk b (by omega) (by omega) (by omega) (by omega) (by omega)⟩
theorem zero3 (w : World) : (zeroValue 3).run Try.prog w = .ok (.int .i64 0) w := by kernel_rfl
end Go.Proofs.Ytiglkpgoakibaaa
