/- What is sent in a tick, on nodes as a list. Plain lists. No condition. -/
import Derived.Test.YtiglkpgoakibaabDistP
namespace Go.Proofs.Ytiglkpgoakibaab
open Go.RowKit PTopRegrouped

/-- Who does not hear whom: 16 rows of 16. -/
def lostStep (lo : List Bool) (x : Ng) : List Bool := lo.set (x.node.toNat * 16 + x.arg.toNat) true
def lostTo (xs : List Ng) : List Bool := xs.foldl lostStep (List.replicate 256 false)
theorem lostTo_snoc (xs : List Ng) (x : Ng) : lostTo (xs ++ [x]) = lostStep (lostTo xs) x := by unfold lostTo; rw [List.foldl_append]; rfl
theorem lostTo_length (xs : List Ng) : (lostTo xs).length = 256 := by
  unfold lostTo
  suffices h : ∀ (l : List Bool), (xs.foldl lostStep l).length = l.length by rw [h]; exact List.length_replicate
  induction xs with
  | nil => intro l; rfl
  | cons x xs ih => intro l; rw [List.foldl_cons, ih]; simp [lostStep]

def hit (a gr : Int) (g : Nat) : Bool := Go.bits .and .i64 (Go.bits .and .i64 a gr / 2 ^ g) 1 == 1
/-- Node 'to' hears node 'from', which asks for a: the first k groups. -/
def sendG (l : Bool) (H a : Int) (x : Nd) : Nat → Nd
  | 0 => x
  | k + 1 => if !l && hit a x.s.f0 k then { sendG l H a x k with tm := (sendG l H a x k).tm.set k H } else sendG l H a x k
theorem sendG_nine (l : Bool) (H a : Int) (x : Nd) (k : Nat) (h : x.tm.length = 9) : (sendG l H a x k).tm.length = 9 := by
  induction k with
  | zero => exact h
  | succ k ih =>
    unfold sendG
    split
    · simpa using ih
    · exact ih
theorem sendG_s (l : Bool) (H a : Int) (x : Nd) (k : Nat) : (sendG l H a x k).s = x.s := by
  induction k with
  | zero => rfl
  | succ k ih =>
    unfold sendG
    split
    · exact ih
    · exact ih
theorem sendG_asks (l : Bool) (H a : Int) (x : Nd) (k : Nat) : (sendG l H a x k).asks = x.asks := by
  induction k with
  | zero => rfl
  | succ k ih =>
    unfold sendG
    split
    · exact ih
    · exact ih
/-- What node 'fr' sends to the first k nodes. -/
def rowTo' (lo : List Bool) (H a : Int) (G fr : Nat) (ns : List Nd) : Nat → List Nd
  | 0 => ns
  | k + 1 => match (rowTo' lo H a G fr ns k)[k]? with
    | some x => (rowTo' lo H a G fr ns k).set k (sendG (lo.getD (fr * 16 + k) false) H a x G)
    | none => rowTo' lo H a G fr ns k
/-- What the first k nodes send. -/
def sendTo (lo : List Bool) (H : Int) (G : Nat) (ns : List Nd) : Nat → List Nd
  | 0 => ns
  | k + 1 => match (sendTo lo H G ns k)[k]? with
    | some x => rowTo' lo H x.asks G k (sendTo lo H G ns k) ns.length
    | none => sendTo lo H G ns k
theorem rowTo'_length (lo : List Bool) (H a : Int) (G fr : Nat) (ns : List Nd) (k : Nat) : (rowTo' lo H a G fr ns k).length = ns.length := by
  induction k with
  | zero => rfl
  | succ k ih =>
    unfold rowTo'
    split
    · simpa using ih
    · exact ih
theorem rowTo'_nine (lo : List Bool) (H a : Int) (G fr : Nat) {ns : List Nd} (h : Nine ns) (k : Nat) : Nine (rowTo' lo H a G fr ns k) := by
  induction k with
  | zero => exact h
  | succ k ih =>
    unfold rowTo'
    split
    · rename_i x hx
      exact ih.set _ (sendG_nine _ _ _ _ _ (ih.get hx))
    · exact ih
theorem sendTo_length (lo : List Bool) (H : Int) (G : Nat) (ns : List Nd) (k : Nat) : (sendTo lo H G ns k).length = ns.length := by
  induction k with
  | zero => rfl
  | succ k ih =>
    unfold sendTo
    split
    · rw [rowTo'_length]; exact ih
    · exact ih
theorem sendTo_nine (lo : List Bool) (H : Int) (G : Nat) {ns : List Nd} (h : Nine ns) (k : Nat) : Nine (sendTo lo H G ns k) := by
  induction k with
  | zero => exact h
  | succ k ih =>
    unfold sendTo
    split
    · exact rowTo'_nine _ _ _ _ _ ih _
    · exact ih
theorem rowTo'_succ (lo : List Bool) (H a : Int) (G fr : Nat) (ns : List Nd) (k : Nat) (x : Nd) (h : (rowTo' lo H a G fr ns k)[k]? = some x) :
    rowTo' lo H a G fr ns (k + 1) = (rowTo' lo H a G fr ns k).set k (sendG (lo.getD (fr * 16 + k) false) H a x G) := by
  rw [rowTo', h]
theorem sendTo_succ (lo : List Bool) (H : Int) (G : Nat) (ns : List Nd) (k : Nat) (x : Nd) (h : (sendTo lo H G ns k)[k]? = some x) :
    sendTo lo H G ns (k + 1) = rowTo' lo H x.asks G k (sendTo lo H G ns k) ns.length := by
  rw [sendTo, h]
theorem lost_cell {w : World} {b : Nat} {lo : List Bool} (hl : lo.length = 256) (h : w.heap[b]? = some (.cells (lo.map Value.bool).toArray 87 (0, 0))) (i : Nat) (hi : i < 256) : w.cell? ⟨b, i, none⟩ = some (.bool (lo.getD i false)) := by
  rw [blk_cell' h i, List.getElem?_toArray, List.getElem?_map, List.getD_eq_getElem?_getD, List.getElem?_eq_getElem (by omega)]
  rfl
theorem lost_set {w : World} {b : Nat} {lo : List Bool} (h : w.heap[b]? = some (.cells (lo.map Value.bool).toArray 87 (0, 0))) (i : Nat) : (w.setCell ⟨b, i, none⟩ (.bool true)).heap[b]? = some (.cells ((lo.set i true).map Value.bool).toArray 87 (0, 0)) := by
  rw [heap_setCell_same w b i _ 87 (.bool true) h, List.map_set]
  simp
theorem own_blk {β : Type} {B b : Nat} (f : β → Obj) (hb : b < B) : OwnFrom B (fun s W => W.heap[b]? = some (f s)) :=
  fun _ _ _ _ hs hg hr => (hg.block b (blk_lt' hs) (fun e => by have := (hr b e.symm).1; omega)).trans hs
def LossOk (n : Nat) (x : Ng) : Prop := 0 ≤ x.node ∧ x.node < n ∧ 0 ≤ x.arg ∧ x.arg < n
end Go.Proofs.Ytiglkpgoakibaab
