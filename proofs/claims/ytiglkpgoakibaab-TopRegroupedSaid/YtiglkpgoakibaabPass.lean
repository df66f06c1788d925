/- The end of a tick ((*play).pass): the walk. No condition beyond those it names. -/
import Derived.Test.YtiglkpgoakibaabPassP
import Derived.WalkKit
import Derived.WalkSpells
import Derived.WalkLawsBesides
import Derived.Lib.Hide
import Derived.Deep.QuietTactic
import Derived.BigQuiet
namespace Go.Proofs.Ytiglkpgoakibaab
open Go.RowKit PTopRegrouped Go.Proofs.YtiglkpgoakibaabW.PrintWords

/-- p's block: the cluster, the nudges, the nodes. -/
def plCells (G H : Int) (cn nl nd : Value) : Array Value := #[.int .i64 G, .int .i64 H, cn, nl, nd]

/-- The nodes' row in a world (of none there may be none). -/
def NdRow (w : World) (bn cap : Nat) (ns : List Nd) : Prop := ns = [] ∨ w.ownsRow 0 68 17 (.slice (some ⟨bn, 0, none⟩) ns.length cap) ns.length (ndCells ns)

theorem NdRow.row {w : World} {bn cap : Nat} {ns : List Nd} (h : NdRow w bn cap ns) (h0 : 0 < ns.length) : w.ownsRow 0 68 17 (.slice (some ⟨bn, 0, none⟩) ns.length cap) ns.length (ndCells ns) := by
  rcases h with rfl | h
  · simp at h0
  · exact h
theorem NdRow.cell {w : World} {bn cap : Nat} {ns : List Nd} (h : NdRow w bn cap ns) (h9 : Nine ns) {k : Nat} {x : Nd} (hx : ns[k]? = some x) (j : Nat) (hj : j < 17) :
    w.cell? ⟨bn, k * 17 + j, none⟩ = x.cells[j]? :=
  have hk := (List.getElem?_eq_some_iff.1 hx).1
  (World.ownsRow.cellAt (h.row (by omega)) _ (by omega)).trans (ndCells_get h9 k j hj x hx)
theorem NdRow.frozen {w : World} {bn cap : Nat} {ns : List Nd} (h : NdRow w bn cap ns) (h0 : 0 < ns.length) (j : Nat) : w.frozen? ⟨bn, j, none⟩ = false := World.ownsRow.frozenAt (h.row h0) j
theorem NdRow.store {w : World} {bn cap : Nat} {ns : List Nd} (h : NdRow w bn cap ns) (h9 : Nine ns) {k : Nat} {x : Nd} (x' : Nd) (hx : ns[k]? = some x) (j : Nat) (hj : j < 17) (v : Value) (hc : x.cells.set j v = x'.cells) :
    NdRow (w.setCell ⟨bn, k * 17 + j, none⟩ v) bn cap (ns.set k x') ∧ w.grownBy (w.setCell ⟨bn, k * 17 + j, none⟩ v) (some bn) := by
  have hk := (List.getElem?_eq_some_iff.1 hx).1
  have h1 := World.ownsRow.stored (h.row (by omega)) (k * 17 + j) v
  rw [ndCells_set h9 k j hj x x' v hx hc] at h1
  refine ⟨.inr ?_, h1.2⟩
  rw [List.length_set]
  exact h1.1
theorem NdRow.kept {w w' : World} {bn cap : Nat} {ns : List Nd} (h : NdRow w bn cap ns) (hh : bn < w.heap.size → w'.heap[bn]? = w.heap[bn]?) : NdRow w' bn cap ns := by
  rcases h with rfl | h
  · exact .inl rfl
  · refine .inr ⟨h.1, ?_⟩
    rcases h.2 with h2 | ⟨g, cap', cur, hv, hg, hb, r⟩
    · exact .inl h2
    · simp only [Value.slice.injEq, Option.some.injEq, Addr.mk.injEq, and_true, true_and] at hv
      obtain ⟨rfl, rfl⟩ := hv
      exact .inr ⟨bn, cap, cur, rfl, hg, (hh (Array.getElem?_eq_some_iff.1 hb).1).trans hb, r⟩

theorem size66 : (Try.prog.info? 66).map (·.size) = some 9 := by kernel_rfl

theorem NdRow.drew {w : World} {bn cap : Nat} {ns : List Nd} (h : NdRow w bn cap ns) : NdRow w.drew bn cap ns := h.kept (fun _ => rfl)
theorem grown_drew {w w' : World} {r : Option Nat} (h : w.grownBy w' r) : w.grownBy w'.drew r := ⟨h.os, h.tape, h.output, h.size, h.block⟩

theorem wrap_pow (k : Nat) (h : k ≤ 62) : wrap64 (2 ^ k) = 2 ^ k := by
  have h1 : (2 : Int) ^ k ≤ 2 ^ 62 := by
    have := Nat.pow_le_pow_right (n := 2) (by omega) h
    exact_mod_cast this
  have h2 : (0 : Int) < 2 ^ k := by
    have := Nat.pow_pos (n := k) (show 0 < 2 by omega)
    exact_mod_cast this
  unfold wrap64
  omega

set_option maxHeartbeats 400000 in
theorem pass_any (p bn cap : Nat) (A : Option Addr) (G H : Int) (cn nl : Value) (ns : List Nd) (hA : 0 < ns.length → A = some ⟨bn, 0, none⟩) (h9 : Nine ns) (w : World)
    (hp : w.heap[p]? = some (.cells (plCells G H cn nl (.slice A ns.length cap)) 65 (0, 0)))
    (hn : NdRow w bn cap ns) (hne : p ≠ bn) (hlen : ns.length ≤ 16) (hbd : ∀ x ∈ ns, ∀ t ∈ x.tm, t ≤ 100) :
    Calls Try.prog 33 #[.pointer (some ⟨p, 0, none⟩)] w fun e w' => e = .returned (.int .i64 (rowTo ns ns.length)) ∧ w.grownBy w' (some bn) ∧ NdRow w' bn cap (ns.map passNd) := by
  have hb := blk_lt' hp
  have h4 : w.cell? ⟨p, 4, none⟩ = some (.slice A ns.length cap) := (blk_cell' hp 4).trans rfl
  go_enter Try.func33, Try.ntmps33
  go_wp2
  go_loopw [2, 12] (fun r i wr => ∃ (k : Nat), k ≤ ns.length ∧ r = .int .i64 (rowTo ns k) ∧ i = .int .i64 k ∧ NdRow wr bn cap (passTo ns k) ∧ w.grownBy wr (some bn)) (fun _ i _ => ns.length - (intOf i).toNat)
  case atStart => exact ⟨0, by omega, rfl, rfl, by rw [passTo_zero]; exact hn, ⟨rfl, rfl, rfl, Nat.le_refl _, fun _ _ _ => rfl⟩⟩
  case round =>
    obtain ⟨k, hk, rfl, rfl, hr, hg⟩ := hrel
    have hp' : wr.cell? ⟨p, 4, none⟩ = some (.slice A ns.length cap) := hg.cell h4 (by simp [hne])
    by_cases hlt : k < ns.length
    · obtain rfl := hA (by omega)
      obtain ⟨nd, hnd⟩ : ∃ nd, ns[k]? = some nd := ⟨_, List.getElem?_eq_getElem hlt⟩
      have ht := h9.get hnd
      have hnd' := passTo_get ns k nd hnd
      have hN := passTo_nine h9 k
      have hc16 : wr.cell? ⟨bn, k * 17 + 16, none⟩ = some (.bool nd.aw) := (hr.cell hN hnd' 16 (by omega)).trans (nd.get_aw ht)
      have hf : ∀ j, wr.frozen? ⟨bn, j, none⟩ = false := fun j => hr.frozen (by rw [passTo_length]; omega) j
      have hs := hr.store hN { nd with aw := false } hnd' 16 (by omega) (.bool false) (nd.cells_aw ht false)
      obtain ⟨hs1, hs2⟩ := hs
      have hs3 := Lib.hid hs1
      have hs4 := Lib.hid hs2
      clear hs1 hs2
      have Hc : Hid (∀ j v, (nd.tm.map (Value.int .i64))[j]? = some v → (wr.setCell ⟨bn, k * 17 + 16, none⟩ (.bool false)).cell? ((⟨bn, k * 17 + 6, none⟩ : Addr).add j) = some v) := by
        intro j v hj
        rw [add_off, show k * 17 + 6 + j = k * 17 + (6 + j) from by omega]
        have hj9 : j < 9 := by have := (List.getElem?_eq_some_iff.1 hj).1; simp at this; omega
        rw [NdRow.cell hs3.out (hN.set k (by simpa using ht)) (k := k) (x := { nd with aw := false }) (by rw [List.getElem?_set_self (by rw [passTo_length]; exact hlt)]) (6 + j) (by omega), Nd.get_tms _ (by simpa using ht) j hj9]
        exact hj
      go_wp2_with ((with_reducible refine gate_dst (N := 27) rfl ?_); refine wpList_load_list rfl 66 _ rfl ⟨bn, k * 17 + 6, none⟩ rfl (nd.tm.map (Value.int .i64)) 9 (by simpa using ht) _ Try.underlying66 rfl size66 Hc.out ?_)
      obtain ⟨w1, hw1⟩ : ∃ w1, wr.setCell ⟨bn, k * 17 + 16, none⟩ (.bool false) = w1 := ⟨_, rfl⟩
      rw [hw1] at hs3 hs4 ⊢
      clear hw1
      go_loopw [28] (fun i w2 => ∃ j : Nat, j ≤ 9 ∧ i = .int .i64 j ∧ NdRow w2 bn cap ((passTo ns k).set k (passT nd j)) ∧ w.grownBy w2 (some bn)) (fun i _ => 9 - (intOf i).toNat)
      case atStart => exact ⟨0, by omega, rfl, by rw [passT_start]; exact hs3.out, hg.trans hs4.out⟩
      case round =>
        obtain ⟨j, hj, rfl, hr2, hg2⟩ := hrel
        by_cases hlt2 : j < 9
        · obtain ⟨t, htj⟩ : ∃ t, nd.tm[j]? = some t := ⟨_, List.getElem?_eq_getElem (by omega)⟩
          have htj2 : (nd.tm.map (Value.int .i64))[j]? = some (.int .i64 t) := by rw [List.getElem?_map, htj]; rfl
          have H2 := Lib.hid htj2
          have Htj := Lib.hid htj
          clear htj2
          have hN2 := hN.set k (passT_nine nd j ht)
          have hx2 : ((passTo ns k).set k (passT nd j))[k]? = some (passT nd j) := List.getElem?_set_self (by rw [passTo_length]; exact hlt)
          have htj' : (passT nd j).tm[j]? = some t := (passT_tm nd j j (by omega) ht hlt2).trans htj
          have htb : t ≤ 100 := hbd nd (List.mem_of_getElem? hnd) t (List.mem_of_getElem? htj)
          by_cases h0 : 0 < t
          · have c1 : wr.cell? ⟨bn, k * 17 + 16, none⟩ = some (.bool (passT nd j).aw) := (hr2.cell hN2 hx2 16 (by omega)).trans ((passT nd j).get_aw (passT_nine nd j ht))
            have c2 : wr.cell? ⟨bn, k * 17 + 6 + j, none⟩ = some (.int .i64 t) := by
              rw [show k * 17 + 6 + j = k * 17 + (6 + j) from by omega, hr2.cell hN2 hx2 (6 + j) (by omega), Nd.get_tms _ (passT_nine nd j ht) j hlt2, List.getElem?_map, htj']
              rfl
            have hf2 : ∀ j, wr.frozen? ⟨bn, j, none⟩ = false := fun j => hr2.frozen (by rw [List.length_set, passTo_length]; omega) j
            clear htj htj' hf hc16
            go_wp2_with ((with_reducible refine gate_dst (N := 31) rfl ?_); refine wpList_index_list rfl 66 _ _ rfl 3 9 (nd.tm.map (Value.int .i64)) .i64 j (.int .i64 t) rfl rfl Try.underlying66 (by simpa using ht) (by kernel_rfl) (by kernel_rfl) H2.out ?_)
            go_region
            go_wp2
            have hst1 := hr2.store hN2 { passT nd j with aw := true } hx2 16 (by omega) (.bool true) (Nd.cells_aw _ (passT_nine nd j ht) true)
            have hN3 : Nine (((passTo ns k).set k (passT nd j)).set k { passT nd j with aw := true }) := hN2.set k (passT_nine nd j ht)
            have hst2 := hst1.1.store hN3 (k := k) (x := { passT nd j with aw := true }) { passT nd j with tm := (passT nd j).tm.set j (t - 1), aw := true } (by rw [List.getElem?_set_self (by rw [List.length_set, passTo_length]; exact hlt)]) (6 + j) (by omega) (.int .i64 (t - 1)) (Nd.cells_tm { passT nd j with aw := true } (passT_nine nd j ht) j hlt2 (t - 1))
            rw [List.set_set, List.set_set, ← passT_turn nd j t (by simpa using Htj.out) h0, ← Nat.add_assoc] at hst2
            refine ⟨⟨j + 1, by omega, by simp, hst2.1.drew, grown_drew (hg2.trans (hst1.2.trans hst2.2))⟩, by simp [intOf]; omega⟩
          · have h0' : t ≤ 0 := by omega
            clear h0
            go_wp2_with ((with_reducible refine gate_dst (N := 31) rfl ?_); refine wpList_index_list rfl 66 _ _ rfl 3 9 (nd.tm.map (Value.int .i64)) .i64 j (.int .i64 t) rfl rfl Try.underlying66 (by simpa using ht) (by kernel_rfl) (by kernel_rfl) H2.out ?_)
            rw [← passT_stay nd j t Htj.out h0'] at hr2
            exact ⟨⟨j + 1, by omega, by simp, hr2, hg2⟩, by simp [intOf]; omega⟩
        · have hj9 : j = 9 := by omega
          subst hj9
          rw [passT_end nd ht, passTo_succ ns k nd hnd] at hr2
          have hx3 : (passTo ns (k + 1))[k]? = some (passNd nd) := by
            rw [← passTo_succ ns k nd hnd]
            exact List.getElem?_set_self (by rw [passTo_length]; exact hlt)
          have hc3 : wr.cell? ⟨bn, k * 17 + 16, none⟩ = some (.bool (passNd nd).aw) := (hr2.cell (passTo_nine h9 (k + 1)) hx3 16 (by omega)).trans ((passNd nd).get_aw (by simpa [passNd] using ht))
          have hr3 := Lib.hid hr2
          clear hr2 hx3 hnd' hc16 hf
          cases haw : (passNd nd).aw
          · rw [haw] at hc3
            have Haw := Lib.hid haw
            clear haw
            go_wp2
            exact ⟨⟨k + 1, by omega, by rw [rowTo, hnd]; simp [Haw.out], by simp, hr3.out, hg2⟩, by simp [intOf]; omega⟩
          · rw [haw] at hc3
            have Haw := Lib.hid haw
            clear haw
            go_wp2
            exact ⟨⟨k + 1, by omega, by rw [rowTo, hnd, wrap_pow k (by omega)]; simp [Haw.out], by simp, hr3.out, hg2⟩, by simp [intOf]; omega⟩
    · have hkk : k = ns.length := by omega
      subst hkk
      go_wp2
      go_ret
      refine ⟨rfl, hg, ?_⟩
      rw [passTo_all] at hr
      exact hr
end Go.Proofs.Ytiglkpgoakibaab
