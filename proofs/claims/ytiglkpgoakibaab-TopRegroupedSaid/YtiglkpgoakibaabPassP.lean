/- The end of a tick, on nodes as a list: timers run down, who has one is awake. Plain lists. No condition. -/
import Derived.Test.YtiglkpgoakibaabBase
namespace Go.Proofs.Ytiglkpgoakibaab
open Go.RowKit PTopRegrouped

def decT (t : Int) : Int := if 0 < t then t - 1 else t
/-- A node when j of its timers have been looked at. -/
def passT (x : Nd) (j : Nat) : Nd := { x with tm := (x.tm.take j).map decT ++ x.tm.drop j, aw := (x.tm.take j).any (fun t => decide (0 < t)) }
def passNd (x : Nd) : Nd := { x with tm := x.tm.map decT, aw := x.tm.any (fun t => decide (0 < t)) }

theorem passT_nine (x : Nd) (j : Nat) (h : x.tm.length = 9) : (passT x j).tm.length = 9 := by
  simp [passT]
  omega
theorem passT_end (x : Nd) (h : x.tm.length = 9) : passT x 9 = passNd x := by
  unfold passT passNd
  rw [List.take_of_length_le (by omega), List.drop_of_length_le (by omega), List.append_nil]
theorem passT_start (x : Nd) : passT x 0 = { x with aw := false } := by simp [passT]
theorem passT_tm (x : Nd) (j i : Nat) (h : j ≤ i) (hl : x.tm.length = 9) (hi : i < 9) : (passT x j).tm[i]? = x.tm[i]? := by
  simp only [passT]
  rw [List.getElem?_append_right (by simp; omega), List.getElem?_drop]
  simp only [List.length_map, List.length_take]
  congr 1
  omega
theorem take_succ' {α : Type} (l : List α) (j : Nat) (t : α) (h : l[j]? = some t) : l.take (j + 1) = l.take j ++ [t] := by
  rw [List.take_add_one, h]
  rfl
theorem drop_cons' {α : Type} (l : List α) (j : Nat) (t : α) (h : l[j]? = some t) : l.drop j = t :: l.drop (j + 1) := by
  obtain ⟨h1, h2⟩ := List.getElem?_eq_some_iff.1 h
  rw [List.drop_eq_getElem_cons h1, h2]
theorem passT_stay (x : Nd) (j : Nat) (t : Int) (h : x.tm[j]? = some t) (ht : t ≤ 0) : passT x (j + 1) = passT x j := by
  unfold passT
  rw [take_succ' _ _ _ h, drop_cons' _ _ _ h]
  have hd : decT t = t := by unfold decT; rw [if_neg (by omega)]
  have hf : decide (0 < t) = false := by simp; omega
  simp [hd, hf]
theorem passT_turn (x : Nd) (j : Nat) (t : Int) (h : x.tm[j]? = some t) (ht : 0 < t) : passT x (j + 1) = { passT x j with tm := (passT x j).tm.set j (t - 1), aw := true } := by
  have hj := (List.getElem?_eq_some_iff.1 h).1
  unfold passT
  rw [take_succ' _ _ _ h, drop_cons' _ _ _ h]
  have hd : decT t = t - 1 := by unfold decT; rw [if_pos ht]
  have hf : decide (0 < t) = true := by simpa using ht
  simp only [List.map_append, List.map_cons, List.map_nil, hd, List.any_append, List.any_cons, hf, Bool.true_or, Bool.or_true]
  rw [List.set_append_right _ _ (by simp; omega)]
  simp only [List.length_map, List.length_take]
  have : j - min j x.tm.length = 0 := by omega
  simp [this]

def passTo (ns : List Nd) (k : Nat) : List Nd := (ns.take k).map passNd ++ ns.drop k
theorem passTo_length (ns : List Nd) (k : Nat) : (passTo ns k).length = ns.length := by simp [passTo]; omega
theorem passTo_get (ns : List Nd) (k : Nat) (x : Nd) (h : ns[k]? = some x) : (passTo ns k)[k]? = some x := by
  have hk := (List.getElem?_eq_some_iff.1 h).1
  unfold passTo
  rw [List.getElem?_append_right (by simp; omega), List.getElem?_drop]
  simp only [List.length_map, List.length_take]
  rw [← h]
  congr 1
  omega
theorem passTo_succ (ns : List Nd) (k : Nat) (x : Nd) (h : ns[k]? = some x) : (passTo ns k).set k (passNd x) = passTo ns (k + 1) := by
  have hk := (List.getElem?_eq_some_iff.1 h).1
  unfold passTo
  rw [take_succ' _ _ _ h, drop_cons' _ _ _ h, List.set_append_right _ _ (by simp; omega)]
  simp only [List.length_map, List.length_take]
  have : k - min k ns.length = 0 := by omega
  simp [this]
theorem passTo_nine {ns : List Nd} (h : Nine ns) (k : Nat) : Nine (passTo ns k) := by
  intro y hy
  unfold passTo at hy
  rcases List.mem_append.1 hy with hy | hy
  · obtain ⟨z, hz, rfl⟩ := List.mem_map.1 hy
    simpa [passNd] using h z (List.mem_of_mem_take hz)
  · exact h y (List.mem_of_mem_drop hy)
theorem passTo_zero (ns : List Nd) : passTo ns 0 = ns := by simp [passTo]
theorem passTo_all (ns : List Nd) : passTo ns ns.length = ns.map passNd := by simp [passTo]

/-- The row: who is awake among the first k. -/
def rowTo (ns : List Nd) : Nat → Int
  | 0 => 0
  | k + 1 => if ((ns[k]?).map (fun x => (passNd x).aw)).getD false then Go.bits .or .i64 (rowTo ns k) (2 ^ k) else rowTo ns k

/- cells of a node after a store -/
theorem Nd.cells_aw (x : Nd) (h : x.tm.length = 9) (b : Bool) : x.cells.set 16 (.bool b) = ({ x with aw := b } : Nd).cells := by
  simp only [Nd.cells, List.set_cons_succ]
  rw [List.set_append_right _ _ (by simp [h])]
  simp [h]
theorem Nd.cells_tm (x : Nd) (h : x.tm.length = 9) (j : Nat) (hj : j < 9) (t : Int) : x.cells.set (6 + j) (.int .i64 t) = ({ x with tm := x.tm.set j t } : Nd).cells := by
  rw [show 6 + j = j + 6 from by omega]
  simp only [Nd.cells, List.set_cons_succ]
  rw [List.set_append_left _ _ (by simp [h]; exact hj)]
  simp [List.map_set]
theorem Nd.cells_asks (x : Nd) (v : Int) : x.cells.set 5 (.int .i64 v) = ({ x with asks := v } : Nd).cells := by simp [Nd.cells]
theorem Nd.cells_tok (x : Nd) (h : x.tm.length = 9) (v : Int) : x.cells.set 15 (.int .i64 v) = ({ x with tok := v } : Nd).cells := by
  simp only [Nd.cells, List.set_cons_succ]
  rw [List.set_append_right _ _ (by simp [h])]
  simp [h]
theorem Nd.get_tm (x : Nd) (h : x.tm.length = 9) (j : Nat) (hj : j < 9) : x.cells[6 + j]? = some (.int .i64 (x.tm.getD j 0)) := by
  rw [show 6 + j = j + 6 from by omega]
  simp only [Nd.cells, List.getElem?_cons_succ]
  rw [List.getElem?_append_left (by simp [h]; exact hj), List.getElem?_map, List.getD_eq_getElem?_getD, List.getElem?_eq_getElem (by omega)]
  rfl
theorem Nd.get_tms (x : Nd) (h : x.tm.length = 9) (j : Nat) (hj : j < 9) : x.cells[6 + j]? = (x.tm.map (Value.int .i64))[j]? := by
  rw [Nd.get_tm x h j hj, List.getElem?_map, List.getD_eq_getElem?_getD, List.getElem?_eq_getElem (by omega)]
  rfl
theorem Nd.get_tok (x : Nd) (h : x.tm.length = 9) : x.cells[15]? = some (.int .i64 x.tok) := by
  simp only [Nd.cells, List.getElem?_cons_succ]
  rw [List.getElem?_append_right (by simp [h])]
  simp [h]
theorem Nd.get_aw (x : Nd) (h : x.tm.length = 9) : x.cells[16]? = some (.bool x.aw) := by
  simp only [Nd.cells, List.getElem?_cons_succ]
  rw [List.getElem?_append_right (by simp [h])]
  simp [h]
theorem Nd.cells_one (x : Nd) : x.cells.toArray.all (·.oneCell') = true := by
  simp [Nd.cells, Value.oneCell']
end Go.Proofs.Ytiglkpgoakibaab
