/- Not, a literal, and of some knots (not, literal, and): the walks. Conditions: the forest lies there, what is joined are knots of it. -/
import Derived.Test.YtiglkpgoakibaaaForm
namespace Go.Proofs.Ytiglkpgoakibaaa
open Go.RowKit Go.Maps PTopKnots Go.Proofs.YtiglkpgoakibaaaW.PrintWords
set_option linter.unusedVariables false
set_option linter.unusedSimpArgs false

/-- A knot that says P, found or made at a cost. -/
def KnPost (N c : Nat) (Ks : List Kn) (w : World) (F : Fb) (Q : (Nat → Bool) → Bool) (e : Ending) (w' : World) : Prop :=
  ∃ (n : Nat) (F' : Fb) (K' : List Kn), e = .returned (.int .i64 n) ∧ Fo w' F' N K' c ∧ Stp w F Ks w' F' K' ∧ n < K'.length ∧ ∀ v, ev K' n v = Q v
theorem knot_join {N c : Nat} {w : World} {F : Fb} {Ks : List Kn} {op : Int} {a b : Nat} (hN : N ≤ 40) (hf : Fo w F N Ks c) (hop : IsOp op) (ha : a < Ks.length) (hb : b < Ks.length) (hc : c + costJ N ≤ 1073741824) :
    Calls Try.prog 29 #[.pointer (some ⟨F.p, 0, none⟩), .int .i64 op, .int .i64 a, .int .i64 b] w (KnPost N (c + costJ N) Ks w F fun v => opB op (ev Ks a v) (ev Ks b v)) := by
  refine (join_any hN N w F Ks c op a b hf hop ha hb (by omega) hc).mono ?_
  rintro e w' ⟨n, F', K', rfl, h1, h2, h3, _, h4⟩
  exact ⟨n, F', K', rfl, h1, h2, h3, h4⟩
theorem not_any {N c : Nat} {w : World} {F : Fb} {Ks : List Kn} {a : Nat} (hN : N ≤ 40) (hf : Fo w F N Ks c) (ha : a < Ks.length) (hc : c + costJ N ≤ 1073741824) :
    Calls Try.prog 30 #[.pointer (some ⟨F.p, 0, none⟩), .int .i64 a] w (KnPost N (c + costJ N) Ks w F fun v => !(ev Ks a v)) := by
  have h2 := hf.wf.two
  have HJ := Lib.hid (knot_join (op := -6) (b := 0) hN hf (.inr (.inr rfl)) ha (by omega) hc)
  clear hf
  go_enter Try.func30, Try.ntmps30
  go_wp2_with fail
  refine HJ.out.mono ?_
  rintro e w' ⟨n, F', K', rfl, h1, h2, h3, h4⟩
  have HF : Hid (KnPost N (c + costJ N) Ks w F (fun v => !(ev Ks a v)) (.returned (.int .i64 n)) w') := ⟨n, F', K', rfl, h1, h2, h3, fun v => by have := h4 v; dsimp only at this ⊢; rw [this, ev_0]; unfold opB; cases ev Ks a v <;> rfl⟩
  clear h1 h2 h3 h4
  go_wp2_with fail
  go_ret
  exact HF.out
theorem literal_any {N c : Nat} {w : World} {F : Fb} {Ks : List Kn} (hN : N ≤ 40) (hf : Fo w F N Ks c) {o : Nat} (ho : o < N) (hc : c ≤ 1073741824) :
    Calls Try.prog 31 #[.pointer (some ⟨F.p, 0, none⟩), .int .i64 o, .bool true] w (KnPost N (c + 1) Ks w F fun v => v o) := by
  have h2 := hf.wf.two
  have HJ := Lib.hid (node_any hf (by omega) hc ho (l := 0) (h := 1) (by omega) (by omega) (by rw [hf.wf.lv0]; exact ho) (by rw [hf.wf.lv1]; exact ho))
  clear hf
  go_enter Try.func31, Try.ntmps31
  go_wp2_with fail
  refine HJ.out.mono ?_
  rintro e w' ⟨n, F', K', rfl, h1, h2, h3, _, h4⟩
  have HF : Hid (KnPost N (c + 1) Ks w F (fun v => v o) (.returned (.int .i64 n)) w') := ⟨n, F', K', rfl, h1, h2, h3, fun v => by have := h4 v; dsimp only at this ⊢; rw [this, ev_0, ev_1]; cases v o <;> rfl⟩
  clear h1 h2 h3 h4
  go_wp2_with fail
  go_ret
  exact HF.out

/-- A row of knots' numbers that is read. -/
structure RdN (w : World) (A : Option Addr) (g off : Nat) (xs : List Nat) : Prop where
  hA : 0 < xs.length → A = some ⟨g, off, none⟩
  hc : ∀ j x, xs[j]? = some x → w.cell? ⟨g, off + j, none⟩ = some (.int .i64 (x : Nat))
def Apt (F : Fb) (g : Nat) : Prop := g ≠ F.p ∧ g ≠ F.kb ∧ g ≠ F.mb ∧ g ≠ F.jb
section
variable {w w' : World} {F F' : Fb} {K K' : List Kn}
theorem Stp.apt (h : Stp w F K w' F' K') {g : Nat} (hg : g < w.heap.size) (ha : Apt F g) : Apt F' g := by
  obtain ⟨a1, a2, a3, a4⟩ := ha
  refine ⟨by rw [h.p]; exact a1, ?_, by rw [h.mb]; exact a3, by rw [h.jb]; exact a4⟩
  rcases h.kb with e | e
  · rw [e]; exact a2
  · omega
theorem Stp.blk' (h : Stp w F K w' F' K') {g : Nat} (hg : g < w.heap.size) (ha : Apt F g) : w'.heap[g]? = w.heap[g]? := h.blk g hg ha.1 ha.2.1 ha.2.2.1 ha.2.2.2
theorem Fo.apt {N c : Nat} (h : Fo w F N K c) {g : Nat} (hg : w.heap.size ≤ g) : Apt F g := by
  have h1 := h.pl
  have h2 := h.kl
  have h3 := h.kn.lt
  have h4 := h.jo.lt
  exact ⟨by omega, by omega, by omega, by omega⟩
end
theorem take_get {xs : List Nat} {k x : Nat} (h : xs[k]? = some x) : xs.take (k + 1) = xs.take k ++ [x] := by
  rw [List.take_add_one, h]; rfl

set_option maxRecDepth 100000 in
set_option maxHeartbeats 1000000 in
theorem and_any {N c : Nat} {w : World} {F : Fb} {Ks : List Kn} (hN : N ≤ 40) (hf : Fo w F N Ks c) {A : Option Addr} {g off cap : Nat} {xs : List Nat} (hx : ∀ x ∈ xs, x < Ks.length) (hl : xs.length ≤ 1000) (hr : RdN w A g off xs) (hg : g < w.heap.size) (ha : Apt F g)
    (hc : c + xs.length * costJ N ≤ 1073741824) :
    Calls Try.prog 19 #[.pointer (some ⟨F.p, 0, none⟩), .slice A xs.length cap] w (KnPost N (c + xs.length * costJ N) Ks w F fun v => xs.all fun x => ev Ks x v) := by
  obtain ⟨C, hC⟩ : ∃ C, costJ N = C := ⟨_, rfl⟩
  rw [hC] at hc ⊢
  obtain ⟨m, hm⟩ : ∃ m, xs.length = m := ⟨_, rfl⟩
  rw [hm] at hc hl ⊢
  have HC := Lib.hid hC
  have HM := Lib.hid hm
  have HF := Lib.hid hf
  have HR := Lib.hid hr
  have HX := Lib.hid hx
  clear hf hr hx hC hm
  go_enter Try.func19, Try.ntmps19
  go_wp2_with fail
  go_loopw [5, 10] (fun t i wr => ∃ (k n : Nat) (F' : Fb) (K' : List Kn), k ≤ m ∧ i = .int .i64 k ∧ t = .int .i64 n ∧ Hid (Fo wr F' N K' (c + k * C)) ∧ Hid (Stp w F Ks wr F' K') ∧ n < K'.length ∧ Hid (∀ v, ev K' n v = (xs.take k).all fun x => ev Ks x v)) (fun _ i _ => m - (intOf i).toNat)
  case atStart => exact ⟨0, 1, F, Ks, Nat.zero_le _, rfl, rfl, Lib.hid (by rw [Nat.zero_mul]; exact HF.out), Stp.refl w F Ks, by have := HF.out.wf.two; omega, fun v => by rw [ev_1]; rfl⟩
  case round =>
    obtain ⟨k, n, F', K', hk, rfl, rfl, HFk, HSk, hn, HEk⟩ := hrel
    obtain ⟨wa, rfl⟩ : ∃ wa : World, wa = wr := ⟨_, rfl⟩
    by_cases hlt : k < m
    · obtain ⟨x, hxk⟩ : ∃ x, xs[k]? = some x := ⟨_, List.getElem?_eq_getElem (by rw [HM.out]; exact hlt)⟩
      have hxl := HX.out x (List.mem_of_getElem? hxk)
      obtain rfl := HR.out.hA (by rw [HM.out]; omega)
      have q0 : wa.cell? ⟨g, off + k, none⟩ = some (.int .i64 (x : Nat)) := (World.cell?_of_block (HSk.out.blk' hg ha)).trans (HR.out.hc k x hxk)
      have hxl' : x < K'.length := Nat.lt_of_lt_of_le hxl HSk.out.ext.len
      have hmul : c + k * C + C ≤ 1073741824 := by
        have : (k + 1) * C ≤ m * C := Nat.mul_le_mul_right _ hlt
        rw [Nat.add_mul, Nat.one_mul] at this
        omega
      have HXK := Lib.hid hxk
      have HP : Hid (F'.p = F.p) := HSk.out.p
      have HJ : Hid (Calls Try.prog 29 #[.pointer (some ⟨F.p, 0, none⟩), .int .i64 (-4), .int .i64 n, .int .i64 x] wa (KnPost N (c + k * C + C) K' wa F' fun v => opB (-4) (ev K' n v) (ev K' x v))) := by
        have h := knot_join (op := -4) hN HFk.out (.inl rfl) hn hxl' (by rw [HC.out]; exact hmul)
        rw [HP.out, HC.out] at h
        exact Lib.hid h
      clear hxk
      go_wp2_with fail
      refine HJ.out.mono ?_
      rintro e w' ⟨n', F2, K2, rfl, h1, h2, h3, h4⟩
      have H1 := Lib.hid h1
      have H2 := Lib.hid h2
      have H4 := Lib.hid h4
      clear h1 h2 h4 q0
      go_wp2_with fail
      refine ⟨⟨k + 1, n', F2, K2, by omega, by simp, rfl, Lib.hid (by rw [Nat.add_mul, Nat.one_mul, ← Nat.add_assoc]; exact H1.out), Lib.hid (HSk.out.trans H2.out), h3, Lib.hid (fun v => ?_)⟩, by simp [intOf]; omega⟩
      rw [H4.out v, HEk.out v, ev_ext HF.out.wf HFk.out.wf HSk.out.ext v x hxl, take_get HXK.out, List.all_append]
      simp [opB]
    · obtain rfl : m = k := by omega
      have hfin : KnPost N (c + m * C) Ks w F (fun v => xs.all fun x => ev Ks x v) (.returned (.int .i64 n)) wa := ⟨n, F', K', rfl, HFk.out, HSk.out, hn, fun v => by rw [HEk.out v, List.take_of_length_le (by rw [HM.out]; exact Nat.le_refl _)]⟩
      have HFIN := Lib.hid hfin
      clear hfin hk
      go_wp2_with fail
      go_ret
      exact HFIN.out
end Go.Proofs.Ytiglkpgoakibaaa
