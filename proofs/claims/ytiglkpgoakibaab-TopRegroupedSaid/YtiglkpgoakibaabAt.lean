/- The nudges of a tick, one by one ((*play).at): the iterator's contract. Conditions: at most 1000 nudges; a loop body keeps what lay below n₀, but for one block. -/
import Derived.Test.YtiglkpgoakibaabHas
import Derived.RangeFuncNested
import Derived.RangeFuncBound
import Derived.RangeFuncCalls
import Derived.RangeFuncLeaves
import Derived.Shelf.Abstract
import Derived.Shelf.RegionOpen
import Derived.OwnWalkIn
import Derived.TacticsInMore
import Derived.LoopNIn
import Derived.LoopIn
namespace Go.Proofs.Ytiglkpgoakibaab
open Go.RowKit Go.Shelf PTopRegrouped Go.Proofs.YtiglkpgoakibaabW.PrintWords
attribute [local go_sem] Oper.semAt_some

/-- A nudge. -/
structure Ng where
  at_ : Int
  kind : Int
  node : Int
  arg : Int
def Ng.cells (x : Ng) : List Value := [.int .i64 x.at_, .int .i64 x.kind, .int .i64 x.node, .int .i64 x.arg]
def Ng.enc (x : Ng) : Value := .agg #[.int .i64 x.at_, .int .i64 x.kind, .int .i64 x.node, .int .i64 x.arg]

/-- The nudges as they lie in a world. -/
def NgAt (w : World) (b off : Nat) (ls : List Ng) : Prop := ∀ (k : Nat) (x : Ng), ls[k]? = some x → ∀ i u, x.cells[i]? = some u → w.cell? ⟨b, off + k * 4 + i, none⟩ = some u

/-- Below B all is as it was, but for block g. -/
structure Bel (B g : Nat) (w w' : World) : Prop where
  os : w'.os = w.os
  tape : w'.tape = w.tape
  output : w'.output = w.output
  size : w.heap.size ≤ w'.heap.size
  block : ∀ k, k < B → k ≠ g → w'.heap[k]? = w.heap[k]?
theorem Bel.refl (B g : Nat) (w : World) : Bel B g w w := ⟨rfl, rfl, rfl, Nat.le_refl _, fun _ _ _ => rfl⟩
theorem Bel.trans {B g : Nat} {a b c : World} (h : Bel B g a b) (k : Bel B g b c) : Bel B g a c :=
  ⟨k.os.trans h.os, k.tape.trans h.tape, k.output.trans h.output, Nat.le_trans h.size k.size, fun i hi hg => (k.block i hi hg).trans (h.block i hi hg)⟩
theorem Bel.of_below {B g : Nat} {a b : World} (h : Below B a b) : Bel B g a b := ⟨h.os, h.tape, h.output, h.size, fun k hk _ => h.block k hk⟩
theorem Bel.mono {B B' g : Nat} {a b : World} (h : Bel B g a b) (hB : B' ≤ B) : Bel B' g a b := ⟨h.os, h.tape, h.output, h.size, fun k hk hg => h.block k (by omega) hg⟩
theorem Bel.of_grown {B g : Nat} {a b : World} {row : Option Nat} (h : a.grownBy b row) (hB : B ≤ a.heap.size) (hr : ∀ k, row = some k → k = g ∨ B ≤ k) : Bel B g a b :=
  ⟨h.os, h.tape, h.output, h.size, fun k hk hg => h.block k (by omega) (fun e => by rcases hr k e.symm with h | h; exact hg h; omega)⟩
theorem Bel.cell {B g : Nat} {w w' : World} (h : Bel B g w w') {p : Addr} (hp : p.block < B) (hg : p.block ≠ g) : w'.cell? p = w.cell? p := World.cell?_of_block (w := w) (h.block p.block hp hg)
theorem Bel.heap {B g : Nat} {w w' : World} (h : Bel B g w w') {k : Nat} {o : Obj} (hk : w.heap[k]? = some o) (hp : k < B) (hg : k ≠ g) : w'.heap[k]? = some o := (h.block k hp hg).trans hk
theorem Bel.alloc {B g : Nat} {a w : World} (h : Bel B g a w) (hB : B ≤ w.heap.size) (o : Obj) : Bel B g a (w.alloc o) :=
  h.trans (Bel.of_below ((Below.refl B w).alloc hB o))
theorem Bel.drew {B g : Nat} {a w : World} (h : Bel B g a w) : Bel B g a w.drew := ⟨h.os, h.tape, h.output, h.size, h.block⟩
theorem Bel.drewN {B g : Nat} {a w : World} (h : Bel B g a w) (n : Nat) : Bel B g a (w.drewN n) := ⟨h.os, h.tape, h.output, h.size, h.block⟩
theorem Bel.set {B g : Nat} {a w : World} (h : Bel B g a w) {p : Addr} (hp : p.block = g ∨ B ≤ p.block) (u : Value) : Bel B g a (w.setCell p u) :=
  h.trans ⟨rfl, rfl, rfl, by simp [World.setCell], fun k hk hg => Below.heap_setCell _ _ _ _ (by rintro rfl; rcases hp with hp | hp; exact hg hp; omega)⟩
theorem Bel.put {B g : Nat} {a w : World} (h : Bel B g a w) {l : Nat} (hl : B ≤ l) (o : Obj) : Bel B g a (w.putObj l o) :=
  h.trans (by
    have hg := grownBy_putObj' w l o
    exact ⟨hg.os, hg.tape, hg.output, hg.size, fun k hk hgk => World.putObj_heap_other (by omega)⟩)

def ngSel (tick : Int) (ks : List Int) (x : Ng) : Bool := x.at_ == tick && ks.contains x.kind
def ngTo (tick : Int) (ks : List Int) (ls : List Ng) (k : Nat) : List Ng := (ls.take k).filter (ngSel tick ks)
theorem ngTo_succ (tick : Int) (ks : List Int) (ls : List Ng) (k : Nat) (x : Ng) (h : ls[k]? = some x) : ngTo tick ks ls (k + 1) = if ngSel tick ks x then ngTo tick ks ls k ++ [x] else ngTo tick ks ls k := by
  unfold ngTo
  rw [List.take_add_one, h]
  simp [List.filter_append, List.filter_cons]
  split <;> simp
theorem ngTo_length (tick : Int) (ks : List Int) (ls : List Ng) (k : Nat) : (ngTo tick ks ls k).length ≤ k := by
  unfold ngTo
  have := List.length_filter_le (ngSel tick ks) (ls.take k)
  simp at this
  omega

set_option maxRecDepth 100000 in
set_option maxHeartbeats 1000000 in
theorem at1_in (V : Ng → Prop) (n : Nat) (hn : 1 ≤ n) (l : Nat) (n₀ g bp bt bk p : Nat) (kb kcap : Nat) (ks : List Int) (hks : ks.length ≤ 1000) (tick : Int) (A : Option Addr) (b off cap : Nat) (ls : List Ng) (hls : ls.length ≤ 1000)
    (hA : 0 < ls.length → A = some ⟨b, off, none⟩) (hne : bp ≠ g ∧ bt ≠ g ∧ bk ≠ g ∧ p ≠ g ∧ kb ≠ g ∧ b ≠ g) (hlt : bp < n₀ ∧ bt < n₀ ∧ bk < n₀ ∧ p < n₀ ∧ kb < n₀ ∧ (0 < ls.length → b < n₀))
    (hV : ∀ x, x ∈ ls → ngSel tick ks x = true → V x) (J Jx : List {x : Ng // V x} → World → Prop) (W : World) (hn₀ : n₀ ≤ W.heap.size) (hJ : AbidesFrom W.heap.size J)
    (hY : ∀ pre x W, J pre W → pre.length < ls.length → YieldAt Fence.wide (n - 1) Try.prog l #[x.1.enc] W fun e W' =>
      (e = .returned (.bool true) ∧ J (pre ++ [x]) W' ∧ Bel n₀ g W W') ∨ (e = .returned (.bool false) ∧ Jx (pre ++ [x]) W'))
    (c1 : W.cell? ⟨bp, 0, none⟩ = some (.pointer (some ⟨p, 0, none⟩))) (c2 : W.cell? ⟨bt, 0, none⟩ = some (.int .i64 tick)) (c3 : W.cell? ⟨bk, 0, none⟩ = some (.slice (some ⟨kb, 0, none⟩) ks.length kcap))
    (c4 : W.cell? ⟨p, 3, none⟩ = some (.slice A ls.length cap)) (c5 : ∀ j, j < ks.length → W.cell? ⟨kb, j, none⟩ = some (.int .i64 (ks[j]?.getD 0))) (c6 : NgAt W b off ls) (h0 : J [] W) :
    CallsIn Fence.wide n Try.prog 44 #[.func (.yield l) #[] #[], .pointer (some ⟨bp, 0, none⟩), .pointer (some ⟨bt, 0, none⟩), .pointer (some ⟨bk, 0, none⟩)] W fun e W' => (∃ v, e = .returned v) ∧ ((∃ pre, pre.map (·.1) = ngTo tick ks ls ls.length ∧ J pre W') ∨ ∃ pre, True ∧ Jx pre W') := by
  obtain ⟨e1, e2, e3, e4, e5, e6⟩ := hne
  obtain ⟨l1, l2, l3, l4, l5, l6⟩ := hlt
  refine callsIn_of_wp Try.func44 rfl trivial ?_ rfl
  simp only [Try.ntmps44, List.size_toArray, List.length_cons, List.length_nil, Nat.reduceAdd, Nat.reduceSub, Array.replicate_succ, Array.replicate_zero, List.push_toArray, List.append_toArray, List.nil_append, List.cons_append]
  gi_wp2
  gi_loopw [12] (fun i wr => ∃ k : Nat, k ≤ ls.length ∧ i = .int .i64 k ∧ (∃ pre : List {x : Ng // V x}, pre.map (·.1) = ngTo tick ks ls k ∧ J pre wr) ∧ Bel n₀ g W wr) (fun i _ => ls.length - (intOf i).toNat)
  case atStart => exact ⟨0, Nat.zero_le _, rfl, ⟨[], by simp [ngTo], h0⟩, Bel.refl _ _ _⟩
  case round =>
    obtain ⟨k, hk, rfl, ⟨pre, hpre, hJs⟩, hB⟩ := hrel
    have Hpre := Lib.hid hpre
    clear hpre
    by_cases hlt : k < ls.length
    · obtain rfl := hA (by omega)
      obtain ⟨x, hx⟩ : ∃ x, ls[k]? = some x := ⟨_, List.getElem?_eq_getElem hlt⟩
      have d2 : wr.cell? ⟨bt, 0, none⟩ = some (.int .i64 tick) := (hB.cell (p := ⟨bt, 0, none⟩) l2 e2).trans c2
      have d3 : wr.cell? ⟨bk, 0, none⟩ = some (.slice (some ⟨kb, 0, none⟩) ks.length kcap) := (hB.cell (p := ⟨bk, 0, none⟩) l3 e3).trans c3
      have D5 : Hid (∀ j, j < ks.length → wr.cell? ⟨kb, j, none⟩ = some (.int .i64 (ks[j]?.getD 0))) := fun j hj => (hB.cell (p := ⟨kb, j, none⟩) l5 e5).trans (c5 j hj)
      have hb := l6 (by omega)
      have f0 : wr.cell? ⟨b, off + k * 4, none⟩ = some (.int .i64 x.at_) := (hB.cell (p := ⟨b, _, none⟩) hb e6).trans (c6 k x hx 0 _ rfl)
      have f1 : wr.cell? ⟨b, off + k * 4 + 1, none⟩ = some (.int .i64 x.kind) := (hB.cell (p := ⟨b, _, none⟩) hb e6).trans (c6 k x hx 1 _ rfl)
      have f2 : wr.cell? ⟨b, off + k * 4 + 2, none⟩ = some (.int .i64 x.node) := (hB.cell (p := ⟨b, _, none⟩) hb e6).trans (c6 k x hx 2 _ rfl)
      have f3 : wr.cell? ⟨b, off + k * 4 + 3, none⟩ = some (.int .i64 x.arg) := (hB.cell (p := ⟨b, _, none⟩) hb e6).trans (c6 k x hx 3 _ rfl)
      have hsz : n₀ ≤ wr.heap.size := Nat.le_trans hn₀ hB.size
      have hnext := Lib.hid (ngTo_succ tick ks ls k x hx)
      have z1 : bt < wr.heap.size := by omega
      have z2 : bk < wr.heap.size := by omega
      have z3 : kb < wr.heap.size := by omega
      have z4 : b < wr.heap.size := by omega
      have C5 := Lib.hid c5
      have C6 := Lib.hid c6
      clear c1 c2 c3 c4 c5 c6
      by_cases ha : x.at_ = tick
      · have ha' : (x.at_ == tick) = true := by simpa using ha
        cases hk2 : ks.contains x.kind
        · have HN : Hid (ngTo tick ks ls (k + 1) = ngTo tick ks ls k) := by
            have h := hnext.out
            rw [ngSel, ha', hk2, Bool.and_false, if_neg (by simp)] at h
            exact h
          have Hk2 := Lib.hid hk2
          clear ha hx hk2
          gi_wp2
          refine ⟨trivial, ?_⟩
          refine (callsIn_wide.2 (contains_any kb kcap ks hks _ _ (fun j hj => (((Below.refl _ wr).alloc (Nat.le_refl _) _).cell (p := ⟨kb, j, none⟩) z3).trans (D5.out j hj)))).mono ?_
          rintro e w' ⟨rfl, rfl⟩
          rw [Hk2.out]
          gi_wp2
          refine ⟨fun _ h => (by cases h), ?_⟩
          gi_wp2
          exact ⟨⟨k + 1, by omega, by simp, ⟨pre, by rw [HN.out]; exact Hpre.out, hJ _ _ _ none hJs (World.grownBy_alloc wr _ none) (fun r e => by cases e)⟩, hB.alloc hsz _⟩, by simp [intOf]; omega⟩
        · have HN : Hid (ngTo tick ks ls (k + 1) = ngTo tick ks ls k ++ [x]) := by
            have h := hnext.out
            rw [ngSel, ha', hk2, Bool.and_true, if_pos (by simp)] at h
            exact h
          have Hk2 := Lib.hid hk2
          have hVx : V x := hV x (List.mem_of_getElem? hx) (by rw [ngSel, ha', Hk2.out]; rfl)
          have hlp : pre.length < ls.length := by have h1 := ngTo_length tick ks ls k; rw [← Hpre.out, List.length_map] at h1; omega
          clear ha hx hk2
          have hJ2 := hJ _ _ _ none hJs (World.grownBy_alloc wr (.cells #[.int .i64 x.at_, .int .i64 x.kind, .int .i64 x.node, .int .i64 x.arg] 33) none) (fun r e => by cases e)
          obtain ⟨fn, tmps, assign, body, hy, hR⟩ := hY _ ⟨x, hVx⟩ _ hJ2 hlp
          dsimp only [Ng.enc] at hy
          have HR := Lib.hid hR
          clear hR
          gi_wp2
          refine ⟨trivial, ?_⟩
          refine (callsIn_wide.2 (contains_any kb kcap ks hks _ _ (fun j hj => (((Below.refl _ wr).alloc (Nat.le_refl _) _).cell (p := ⟨kb, j, none⟩) z3).trans (D5.out j hj)))).mono ?_
          rintro e w' ⟨rfl, rfl⟩
          rw [Hk2.out]
          gi_wp2
          refine HR.out.mono ?_
          rintro e W3 (⟨rfl, hJ3, hk3⟩ | ⟨rfl, hJx3⟩)
          · have hB3 := (hB.alloc hsz (.cells #[.int .i64 x.at_, .int .i64 x.kind, .int .i64 x.node, .int .i64 x.arg] 33)).trans hk3
            gi_wp2
            exact ⟨⟨k + 1, by omega, by simp, ⟨pre ++ [⟨x, hVx⟩], by rw [HN.out, List.map_append, Hpre.out]; rfl, hJ3⟩, hB3⟩, by simp [intOf]; omega⟩
          · gi_wp2
            refine bodyPost_ret (results_none rfl _ _ _) rfl ?_
            exact ⟨⟨_, rfl⟩, .inr ⟨_, trivial, hJx3⟩⟩
      · have ha' : (x.at_ == tick) = false := by simpa using ha
        have HN : Hid (ngTo tick ks ls (k + 1) = ngTo tick ks ls k) := by
          have h := hnext.out
          rw [ngSel, ha', Bool.false_and, if_neg (by simp)] at h
          exact h
        clear ha hx
        gi_wp2
        refine ⟨trivial, ?_⟩
        gi_wp2
        refine ⟨fun _ h => (by cases h), ?_⟩
        gi_wp2
        exact ⟨⟨k + 1, by omega, by simp, ⟨pre, by rw [HN.out]; exact Hpre.out, hJ _ _ _ none hJs (World.grownBy_alloc wr _ none) (fun r e => by cases e)⟩, hB.alloc hsz _⟩, by simp [intOf]; omega⟩
    · obtain rfl : k = ls.length := by omega
      gi_wp2
      go_end0
      exact ⟨⟨_, rfl⟩, .inl ⟨pre, Hpre.out, hJs⟩⟩

/-- What the iterator reads, in a world. -/
structure AtIn (w : World) (n₀ g bp bt bk p kb kcap : Nat) (ks : List Int) (tick : Int) (A : Option Addr) (b off cap : Nat) (ls : List Ng) : Prop where
  ks1 : ks.length ≤ 1000
  ls1 : ls.length ≤ 1000
  hA : 0 < ls.length → A = some ⟨b, off, none⟩
  ne : bp ≠ g ∧ bt ≠ g ∧ bk ≠ g ∧ p ≠ g ∧ kb ≠ g ∧ b ≠ g
  lt : bp < n₀ ∧ bt < n₀ ∧ bk < n₀ ∧ p < n₀ ∧ kb < n₀ ∧ (0 < ls.length → b < n₀)
  sz : n₀ ≤ w.heap.size
  c1 : w.cell? ⟨bp, 0, none⟩ = some (.pointer (some ⟨p, 0, none⟩))
  c2 : w.cell? ⟨bt, 0, none⟩ = some (.int .i64 tick)
  c3 : w.cell? ⟨bk, 0, none⟩ = some (.slice (some ⟨kb, 0, none⟩) ks.length kcap)
  c4 : w.cell? ⟨p, 3, none⟩ = some (.slice A ls.length cap)
  c5 : ∀ j, j < ks.length → w.cell? ⟨kb, j, none⟩ = some (.int .i64 (ks[j]?.getD 0))
  c6 : NgAt w b off ls

theorem at_stops (V : Ng → Prop) (n : Nat) (hn : 1 ≤ n) {w : World} {n₀ g bp bt bk p kb kcap : Nat} {ks : List Int} {tick : Int} {A : Option Addr} {b off cap : Nat} {ls : List Ng} (h : AtIn w n₀ g bp bt bk p kb kcap ks tick A b off cap ls)
    (hV : ∀ x, x ∈ ls → ngSel tick ks x = true → V x) :
    SeqStopsK Fence.wide n Try.prog 44 #[.pointer (some ⟨bp, 0, none⟩), .pointer (some ⟨bt, 0, none⟩), .pointer (some ⟨bk, 0, none⟩)] (fun x : {x : Ng // V x} => #[x.1.enc]) (Bel n₀ g)
      (fun xs => xs.map (·.1) = ngTo tick ks ls ls.length) (fun _ => True) ls.length w := fun l J Jx W hW hJ _ hY h0 => by
  obtain ⟨l1, l2, l3, l4, l5, l6⟩ := h.lt
  have hz := h.sz
  have keep : ∀ {k o : Nat}, k < n₀ → W.cell? ⟨k, o, none⟩ = w.cell? ⟨k, o, none⟩ := fun {k o} hk => hW.cell (p := ⟨k, o, none⟩) (show k < w.heap.size by omega)
  refine (at1_in V n hn l n₀ g bp bt bk p kb kcap ks h.ks1 tick A b off cap ls h.ls1 h.hA h.ne h.lt hV J Jx W (Nat.le_trans hz hW.size) hJ hY ((keep l1).trans h.c1) ((keep l2).trans h.c2) ((keep l3).trans h.c3) ((keep l4).trans h.c4)
    (fun j hj => (keep l5).trans (h.c5 j hj)) (fun k x hx i u hu => (keep (l6 (by have := (List.getElem?_eq_some_iff.1 hx).1; omega))).trans (h.c6 k x hx i u hu)) h0).mono ?_
  rintro e W' ⟨he, h⟩
  exact ⟨he, h⟩

set_option maxHeartbeats 400000 in
/-- (*play).at: the closure, over three boxes. -/
theorem at_any (p : Nat) (tick : Int) (kb kcap : Nat) (n : Nat) (w : World) :
    Calls Try.prog 39 #[.pointer (some ⟨p, 0, none⟩), .int .i64 tick, .slice (some ⟨kb, 0, none⟩) n kcap] w fun e w' =>
      e = .returned (.func (.func 44) #[] #[.pointer (some ⟨w.heap.size, 0, none⟩), .pointer (some ⟨w.heap.size + 1, 0, none⟩), .pointer (some ⟨w.heap.size + 2, 0, none⟩)]) ∧
      w' = ((w.alloc (.cells #[.pointer (some ⟨p, 0, none⟩)] 50)).alloc (.cells #[.int .i64 tick] 3)).alloc (.cells #[.slice (some ⟨kb, 0, none⟩) n kcap] 34) := by
  go_enter Try.func39, Try.ntmps39
  go_wp2
  go_ret
  exact ⟨rfl, rfl⟩
end Go.Proofs.Ytiglkpgoakibaab
