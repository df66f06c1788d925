/- A play in memory, and what its parts keep. Words alone. No condition. -/
import Derived.Test.YtiglkpgoakibaabPass
import Derived.Test.YtiglkpgoakibaabAt
namespace Go.Proofs.Ytiglkpgoakibaab
open Go.RowKit Go.Shelf PTopRegrouped Go.Proofs.YtiglkpgoakibaabW.PrintWords

theorem Bel.at_ {B g : Nat} {w w' : World} (h : Bel B g w w') {k o : Nat} (hk : k < B) (hg : k ≠ g) : w'.cell? ⟨k, o, none⟩ = w.cell? ⟨k, o, none⟩ := h.cell (p := ⟨k, o, none⟩) hk hg
theorem below_at {B : Nat} {w w' : World} (h : Below B w w') {k o : Nat} (hk : k < B) : w'.cell? ⟨k, o, none⟩ = w.cell? ⟨k, o, none⟩ := h.cell (p := ⟨k, o, none⟩) hk

/-- Where a play lies: p its block, bn the nodes' block, An, nc the nodes' slice, Al, b, off, lc the nudges' slice. -/
structure Pl where
  p : Nat
  bn : Nat
  An : Option Addr
  nc : Nat
  G : Int
  H : Int
  cn : Value
  Al : Option Addr
  b : Nat
  off : Nat
  lc : Nat
  ls : List Ng

structure Pl.At (P : Pl) (w : World) (ns : List Nd) : Prop where
  hp : w.heap[P.p]? = some (.cells (plCells P.G P.H P.cn (.slice P.Al P.ls.length P.lc) (.slice P.An ns.length P.nc)) 65 (0, 0))
  hA : 0 < ns.length → P.An = some ⟨P.bn, 0, none⟩
  hn : NdRow w P.bn P.nc ns
  bl : P.bn < w.heap.size
  pn : P.p ≠ P.bn
  hL : 0 < P.ls.length → P.Al = some ⟨P.b, P.off, none⟩
  hc : NgAt w P.b P.off P.ls
  bb : P.b < w.heap.size
  nb : P.b ≠ P.bn
  l1 : P.ls.length ≤ 1000

theorem NgAt.keep {w w' : World} {b off : Nat} {ls : List Ng} (h : NgAt w b off ls) (hk : ∀ o, w'.cell? ⟨b, o, none⟩ = w.cell? ⟨b, o, none⟩) : NgAt w' b off ls :=
  fun k x hx i u hu => (hk _).trans (h k x hx i u hu)

/-- All but the nodes' block is kept: the play stands, with other nodes. -/
theorem Pl.At.turn {P : Pl} {w w' : World} {ns ns' : List Nd} (h : P.At w ns) (hg : w.grownBy w' (some P.bn)) (hn : NdRow w' P.bn P.nc ns') (hl : ns'.length = ns.length) : P.At w' ns' where
  hp := by rw [hg.block P.p (blk_lt' h.hp) (by simpa using h.pn), hl]; exact h.hp
  hA := by rw [hl]; exact h.hA
  hn := hn
  bl := Nat.lt_of_lt_of_le h.bl hg.size
  pn := h.pn
  hL := h.hL
  hc := h.hc.keep (fun o => World.cell?_of_block (hg.block P.b h.bb (by simpa using h.nb)))
  bb := Nat.lt_of_lt_of_le h.bb hg.size
  nb := h.nb
  l1 := h.l1

theorem own_row {β : Type} {B bn cap : Nat} (f : β → List Nd) (hb : bn < B) : OwnFrom B (fun s W => NdRow W bn cap (f s)) :=
  fun _ _ _ _ hs hg hr => hs.kept (fun hlt => hg.block bn hlt (fun e => by have := (hr bn e.symm).1; omega))
theorem own_bel {β : Type} {n₀ g B : Nat} {w₀ : World} (hB : n₀ ≤ B) (hw : n₀ ≤ w₀.heap.size) : OwnFrom B (fun (_ : β) W => Bel n₀ g w₀ W) :=
  fun _ _ _ _ hs hg hr => hs.trans (Bel.of_grown hg (Nat.le_trans hw hs.size) (fun k e => .inr (Nat.le_trans hB (hr k e).1)))
theorem bel_put {n₀ g : Nat} {w : World} (hn : n₀ ≤ w.heap.size) (W : World) (l : Nat) (o o' : Obj) (hl : w.heap.size ≤ l) (_ : W.heap[l]? = some o) (_ : o.isCells = false) (_ : o.isWalk = false) : Bel n₀ g W (W.putObj l o') :=
  (Bel.refl n₀ g W).put (by omega) o'
theorem Bel.grown {g : Nat} {w w' : World} (h : Bel w.heap.size g w w') : w.grownBy w' (some g) := ⟨h.os, h.tape, h.output, h.size, fun k hk hg => h.block k hk (by simpa using hg)⟩

theorem allocOld {w : World} {k : Nat} {o' : Obj} (h : w.heap[k]? = some o') (o : Obj) : (w.alloc o).heap[k]? = some o' := (Below.heap_alloc w o k (blk_lt' h)).trans h
theorem allocNew (w : World) (o : Obj) (k : Nat) (hk : k = w.heap.size) : (w.alloc o).heap[k]? = some o := by rw [hk]; exact World.alloc_heap_new w o
/-- Four new blocks. -/
theorem alloc4 (w W : World) (a b c d : Obj) (hW : (((w.alloc a).alloc b).alloc c).alloc d = W) :
    W.heap.size = w.heap.size + 4 ∧ W.heap[w.heap.size]? = some a ∧ W.heap[w.heap.size + 1]? = some b ∧ W.heap[w.heap.size + 2]? = some c ∧ W.heap[w.heap.size + 3]? = some d ∧ Below w.heap.size w W := by
  subst hW
  refine ⟨by simp, ?_, ?_, ?_, ?_, ?_⟩
  · exact allocOld (allocOld (allocOld (allocNew w a _ rfl) b) c) d
  · exact allocOld (allocOld (allocNew _ b _ (by simp)) c) d
  · exact allocOld (allocNew _ c _ (by simp)) d
  · exact allocNew _ d _ (by simp)
  · exact ((((Below.refl _ w).alloc (Nat.le_refl _) _).alloc (by simp) _).alloc (by simp; omega) _).alloc (by simp; omega) _
/-- Five new blocks. -/
theorem alloc5 (w W : World) (a b c d e : Obj) (hW : ((((w.alloc a).alloc b).alloc c).alloc d).alloc e = W) :
    W.heap.size = w.heap.size + 5 ∧ W.heap[w.heap.size]? = some a ∧ W.heap[w.heap.size + 1]? = some b ∧ W.heap[w.heap.size + 2]? = some c ∧ W.heap[w.heap.size + 3]? = some d ∧ W.heap[w.heap.size + 4]? = some e ∧ Below w.heap.size w W := by
  subst hW
  refine ⟨by simp, ?_, ?_, ?_, ?_, ?_, ?_⟩
  · exact allocOld (allocOld (allocOld (allocOld (allocNew w a _ rfl) b) c) d) e
  · exact allocOld (allocOld (allocOld (allocNew _ b _ (by simp)) c) d) e
  · exact allocOld (allocOld (allocNew _ c _ (by simp)) d) e
  · exact allocOld (allocNew _ d _ (by simp)) e
  · exact allocNew _ e _ (by simp)
  · exact (((((Below.refl _ w).alloc (Nat.le_refl _) _).alloc (by simp) _).alloc (by simp; omega) _).alloc (by simp; omega) _).alloc (by simp; omega) _
end Go.Proofs.Ytiglkpgoakibaab
