/- A formula grows into a knot (grow): the walk. Conditions: the forest lies there, the formula is valid and lies apart. -/
import Derived.Test.YtiglkpgoakibaaaAnds
import Derived.Test.YtiglkpgoakibaaaPTopKnotsx3
import Derived.Deep.CutBlock
import Derived.WalkSmall
import Derived.Lib.SmallJoins
namespace Go.Proofs.Ytiglkpgoakibaaa
open Go.RowKit Go.Maps PTopKnots Go.Proofs.YtiglkpgoakibaaaW.PrintWords Go.Proofs.YtiglkpgoakibaaaW.PrintLast
set_option linter.unusedVariables false
attribute [local go_sem] Oper.semAt_some
set_option linter.unusedSimpArgs false

def iv (x : Nat) : Value := .int .i64 (x : Nat)
theorem iv_one (x : Nat) : ∀ u ∈ [Value.int .i64 (x : Nat)], u.oneCell' = true := fun u hu => by
  simp only [List.mem_cons, List.not_mem_nil, or_false] at hu
  subst hu
  rfl
theorem info3 : (Try.prog.info? 3).map (fun i => (i.zero, i.size, i.bytes)) = some (some (.int .i64 0), 1, 8) := by kernel_rfl
/-- A formula that is read. -/
structure RdF (w : World) (A : Option Addr) (g off : Nat) (f : List Int) : Prop where
  hA : 0 < f.length → A = some ⟨g, off, none⟩
  hc : ∀ j x, f[j]? = some x → w.cell? ⟨g, off + j, none⟩ = some (.int .i64 x)
theorem own_cut {w : World} {base : Nat} {e : TypeId} {size n n' cap : Nat} {A : Option Addr} {xs ys : List Value} (hx : xs.length = n' * size) (hn : n' ≤ n)
    (h : w.ownsRow base e size (.slice A n cap) n (xs ++ ys)) : w.ownsRow base e size (.slice A n' cap) n' xs := by
  obtain ⟨_, h2⟩ := h
  rcases h2 with ⟨h0, h1⟩ | ⟨g, cap', cur, hv, hg, hh, hnc, hcap, hsz, htake⟩
  · cases h0
    obtain rfl : n' = 0 := by omega
    exact ⟨hx, .inl ⟨rfl, rfl⟩⟩
  · cases hv
    refine ⟨hx, .inr ⟨g, cap, cur, rfl, hg, hh, by omega, hcap, hsz, ?_⟩⟩
    have h3 : (cur.toList.take (n * size)).take (n' * size) = (xs ++ ys).take (n' * size) := by rw [htake]
    rw [List.take_take, Nat.min_eq_left (Nat.mul_le_mul_right _ hn)] at h3
    rw [h3, ← hx]
    exact take_len _ _
theorem Fo.grown {w w' : World} {F : Fb} {N c : Nat} {K : List Kn} (h : Fo w F N K c) {r : Option Nat} (hg : w.grownBy w' r) (ha : ∀ b, r = some b → Apt F b) : Fo w' F N K c := by
  have a1 : some F.p ≠ r := fun e => (ha _ e.symm).1 rfl
  have a2 : some F.kb ≠ r := fun e => (ha _ e.symm).2.1 rfl
  have a3 : some F.mb ≠ r := fun e => (ha _ e.symm).2.2.1 rfl
  have a4 : some F.jb ≠ r := fun e => (ha _ e.symm).2.2.2 rfl
  exact ⟨(hg.block _ h.pl a1).trans h.box, h.row.kept hg (.inr a2), h.kn.kept hg a3, h.jo.kept hg a4, h.wf, h.len, h.n1, h.n2, h.n3, h.n4, h.n5, h.n6⟩
theorem Stp.grown {w w1 w2 : World} {F F1 : Fb} {K K1 : List Kn} (h : Stp w F K w1 F1 K1) {r : Option Nat} (hg : w1.grownBy w2 r) (hr : ∀ b, r = some b → w.heap.size ≤ b) : Stp w F K w2 F1 K1 where
  ext := h.ext
  p := h.p
  mb := h.mb
  jb := h.jb
  kb := h.kb
  os := hg.os.trans h.os
  tape := hg.tape.trans h.tape
  output := hg.output.trans h.output
  size := Nat.le_trans h.size hg.size
  blk := fun b hb h1 h2 h3 h4 => by
    have hz := h.size
    exact (hg.block b (by omega) (fun e => by have := hr b e.symm; omega)).trans (h.blk b hb h1 h2 h3 h4)
theorem KnPost.more {N c c' : Nat} {Ks : List Kn} {w : World} {F : Fb} {Q Q' : (Nat → Bool) → Bool} {e : Ending} {w' : World} (h : KnPost N c Ks w F Q e w') (hc : c ≤ c') (hQ : ∀ v, Q v = Q' v) : KnPost N c' Ks w F Q' e w' := by
  obtain ⟨n, F', K', rfl, h1, h2, h3, h4⟩ := h
  exact ⟨n, F', K', rfl, h1.more hc, h2, h3, fun v => (h4 v).trans (hQ v)⟩
theorem KnPost.of_drew {N c : Nat} {Ks : List Kn} {w : World} {F : Fb} {Q : (Nat → Bool) → Bool} {e : Ending} {w' : World} (h : KnPost N c Ks w.drew F Q e w') : KnPost N c Ks w F Q e w' := by
  obtain ⟨n, F', K', rfl, h1, h2, h3, h4⟩ := h
  exact ⟨n, F', K', rfl, h1, (Stp.of_below F Ks (Below.refl w.heap.size w).drew).trans h2, h3, h4⟩
theorem fstep_eq (v : Nat → Bool) (x : Int) (st : List Bool) : fstep v x st = (fstep v x st).headD false :: st.drop (opn x) := by
  unfold fstep opn
  by_cases h1 : x = -1
  · subst h1; simp
  · by_cases h2 : x = -2
    · subst h2; simp
    · by_cases h3 : x = -3
      · subst h3; simp
      · rw [if_neg h1, if_neg h2, if_neg h3, if_neg h3]
        by_cases h4 : x = -4 ∨ x = -5 ∨ x = -6
        · rw [if_pos h4, if_pos h4]
          cases st with
          | nil => rfl
          | cons a st => cases st <;> rfl
        · rw [if_neg h4, if_neg h4]
          rfl
theorem opn_f (x : Int) : options_operands.f x = some ((opn x : Nat) : Int) := by
  unfold options_operands.f opn
  by_cases h1 : x = -3
  · subst h1; rfl
  · by_cases h2 : x = -4
    · subst h2; rfl
    · by_cases h3 : x = -5
      · subst h3; rfl
      · by_cases h4 : x = -6
        · subst h4; rfl
        · simp [h1, h2, h3, h4]
theorem opn_le (x : Int) : opn x ≤ 2 := by unfold opn; split <;> (try split) <;> omega

/-- In the midst of a formula: the stack of knots. -/
structure GInv (N c C m : Nat) (Ks : List Kn) (w : World) (F : Fb) (f : List Int) (k : Nat) (t : Value) (wr : World) (S : List Nat) (F' : Fb) (K' : List Kn) : Prop where
  fo : Fo wr F' N K' (c + (m - k) * C)
  stp : Stp w F Ks wr F' K'
  own : wr.ownsRow w.heap.size 3 1 t S.length (S.reverse.map iv)
  apt : ∀ b, t.ownBlock = some b → Apt F' b
  mem : ∀ x ∈ S, x < K'.length
  sem : ∀ v, S.map (fun x => ev K' x v) = fstk v (f.drop k)
theorem GInv.cells {N c C m k : Nat} {Ks K' : List Kn} {w wr : World} {F F' : Fb} {f : List Int} {g' cap' : Nat} {S : List Nat} (h : GInv N c C m Ks w F f k (.slice (some ⟨g', 0, none⟩) S.length cap') wr S F' K') {i : Nat} {a : Nat} (ha : S.reverse[i]? = some a) :
    wr.cell? ⟨g', i, none⟩ = some (.int .i64 a) := by
  have hi := (List.getElem?_eq_some_iff.1 ha).1
  have := World.ownsRow.cellAt h.own i (by rw [Nat.mul_one]; simpa using hi)
  rw [this, List.getElem?_map, ha]
  rfl
theorem GInv.len {N c C m k : Nat} {Ks K' : List Kn} {w wr : World} {F F' : Fb} {f : List Int} {t : Value} {S : List Nat} (h : GInv N c C m Ks w F f k t wr S F' K') (hf : okF N f) : S.length = hgt (f.drop k) := by
  have := congrArg List.length (h.sem fun _ => false)
  rw [List.length_map, fstk_len (N := N) _ _ (okF_drop f k hf)] at this
  exact this
theorem cell_stp {w w' : World} {F F' : Fb} {K K' : List Kn} {g i : Nat} {u : Value} (h : Stp w F K w' F' K') (hg : g < w.heap.size) (ha : Apt F g) (hc : w.cell? ⟨g, i, none⟩ = some u) : w'.cell? ⟨g, i, none⟩ = some u := (World.cell?_of_block (h.blk' hg ha)).trans hc
theorem row_stp {w w' : World} {F F' : Fb} {K K' : List Kn} {base n size : Nat} {e : TypeId} {v : Value} {xs : List Value} (hr : w.ownsRow base e size v n xs) (h : Stp w F K w' F' K') (ha : ∀ b, v.ownBlock = some b → Apt F b) : w'.ownsRow base e size v n xs := by
  rcases hr.2 with ⟨rfl, h0⟩ | ⟨g, cap, cur, rfl, hg, hh, r⟩
  · exact ⟨hr.1, .inl ⟨rfl, h0⟩⟩
  · exact ⟨hr.1, .inr ⟨g, cap, cur, rfl, hg, (h.blk' (blk_lt' hh) (ha g rfl)).trans hh, r⟩⟩
theorem ob (A : Option Addr) (n n' c : Nat) : (Value.slice A n c).ownBlock = (Value.slice A n' c).ownBlock := by cases A <;> rfl
theorem rev_at (a : Nat) (S : List Nat) : (a :: S).reverse[S.length]? = some a := by
  rw [List.reverse_cons, List.getElem?_append_right (by simp)]
  simp
theorem rev_at2 (a b : Nat) (S : List Nat) : (a :: b :: S).reverse[S.length]? = some b := by
  rw [List.reverse_cons, List.getElem?_append_left (by simp)]
  exact rev_at b S
/-- What a sign says, its operands lying on the stack. -/
def sgn (K' : List Kn) (S : List Nat) (x : Int) (v : Nat → Bool) : Bool := (fstep v x (S.map fun y => ev K' y v)).headD false

set_option maxRecDepth 100000 in
set_option maxHeartbeats 4000000 in
theorem grow_any {N c : Nat} {w : World} {F : Fb} {Ks : List Kn} (hN : N ≤ 40) (hf : Fo w F N Ks c) {A : Option Addr} {g off cap : Nat} {f : List Int} (hv : Vd N f) (hr : RdF w A g off f) (hg : g < w.heap.size) (ha : Apt F g) (hc : c + f.length * (costJ N + 1) ≤ 1073741824) :
    Calls Try.prog 20 #[.pointer (some ⟨F.p, 0, none⟩), .slice A f.length cap] w (KnPost N (c + f.length * (costJ N + 1)) Ks w F (fsem f)) := by
  have hmx : Try.prog.follows .mixedOrders = true := by kernel_rfl
  obtain ⟨C, hC⟩ : ∃ C, costJ N = C := ⟨_, rfl⟩
  rw [hC] at hc ⊢
  obtain ⟨m, hm⟩ : ∃ m, f.length = m := ⟨_, rfl⟩
  have hm100 : m ≤ 100 := by rw [← hm]; exact hv.len
  have hm0 : 0 < m := by
    rcases Nat.eq_zero_or_pos m with h | h
    · have h1 := hv.one
      rw [List.eq_nil_of_length_eq_zero (hm.trans h)] at h1
      cases h1
    · exact h
  obtain rfl := hr.hA (by omega)
  rw [hm] at hc ⊢
  have HC := Lib.hid hC
  have HM := Lib.hid hm
  have HF := Lib.hid hf
  have HR := Lib.hid hr
  have HV := Lib.hid hv
  have HA := Lib.hid ha
  have HCC := Lib.hid hc
  clear hf hr hv hC hm ha hc
  go_enter Try.func20, Try.ntmps20
  go_wp2_with fail
  go_loopw [5, 6] (fun t i wr => ∃ (k : Nat) (z : Int), i = .int .i64 z ∧ k ≤ m ∧ z = (k : Int) - 1 ∧ Hid (∃ S F' K', GInv N c (C + 1) m Ks w F f k t wr S F' K')) (fun _ i _ => (intOf i + 1).toNat)
  case atStart =>
    refine ⟨m, _, rfl, Nat.le_refl _, ?_, Lib.hid ⟨[], F, Ks, ?_⟩⟩
    · omega
    · exact ⟨by rw [Nat.sub_self, Nat.zero_mul]; exact HF.out, Stp.refl w F Ks, World.ownsRow_nil _ _ _ _, (fun b h => nomatch h), (fun x h => nomatch h), fun v => by rw [List.drop_of_length_le (by rw [HM.out]; exact Nat.le_refl _)]; rfl⟩
  case round =>
    obtain ⟨k, z, rfl, hk, hz, HI⟩ := hrel
    obtain ⟨wa, rfl⟩ : ∃ wa : World, wa = wr := ⟨_, rfl⟩
    obtain ⟨S, F', K', hI⟩ := HI.out
    clear HI
    have hSl := hI.len HV.out.ok
    by_cases hk0 : k = 0
    · subst hk0
      obtain rfl : z = -1 := by omega
      rw [List.drop_zero, HV.out.one] at hSl
      obtain ⟨a, rfl⟩ : ∃ a, S = [a] := List.length_eq_one_iff.1 hSl
      obtain ⟨g', cap', rfl⟩ := Joins.ownsRow_form hI.own (by simp)
      have q0 : wa.cell? ⟨g', 0, none⟩ = some (.int .i64 a) := hI.cells (by rfl)
      have hsem : ∀ v, ev K' a v = fsem f v := fun v => by
        have := hI.sem v
        rw [List.drop_zero] at this
        unfold fsem
        rw [← this]
        rfl
      have hfin : KnPost N (c + m * (C + 1)) Ks w F (fsem f) (.returned (.int .i64 a)) wa := ⟨a, F', K', rfl, by have := hI.fo; rwa [Nat.sub_zero] at this, hI.stp, hI.mem a (by simp), hsem⟩
      have HFIN := Lib.hid hfin
      clear hfin hI hSl hsem hz hk
      simp only [List.length_singleton]
      go_wp2_with fail
      go_ret
      exact HFIN.out
    · obtain ⟨j, rfl⟩ : ∃ j, k = j + 1 := ⟨k - 1, by omega⟩
      obtain rfl : z = (j : Int) := by omega
      clear hz hk0
      obtain ⟨x, hx⟩ : ∃ x, f[j]? = some x := ⟨_, List.getElem?_eq_getElem (by rw [HM.out]; exact hk)⟩
      obtain ⟨hx1, hx2, hx3⟩ := okF_at HV.out.ok hx
      rw [← hSl] at hx1
      have hL100 : S.length ≤ 100 := by
        have h1 := hgt_le (f.drop (j + 1))
        rw [List.length_drop, HM.out] at h1
        omega
      have q0 : wa.cell? ⟨g, off + j, none⟩ = some (.int .i64 x) := (World.cell?_of_block (hI.stp.blk' hg HA.out)).trans (HR.out.hc j x hx)
      have hgl : g < wa.heap.size := Nat.lt_of_lt_of_le hg hI.stp.size
      obtain ⟨cc, hcc⟩ : ∃ cc, c + (m - (j + 1)) * (C + 1) = cc := ⟨_, rfl⟩
      have hcc2 : cc + (C + 1) = c + (m - j) * (C + 1) := by
        rw [← hcc, show m - j = (m - (j + 1)) + 1 by omega, Nat.add_mul (m - (j + 1)), Nat.one_mul]
        omega
      have hcm : cc + (C + 1) ≤ 1073741824 := by
        have h1 : (m - j) * (C + 1) ≤ m * (C + 1) := Nat.mul_le_mul_right _ (Nat.sub_le _ _)
        have := HCC.out
        omega
      have hAPg : Hid (Apt F' g) := Lib.hid (hI.stp.apt hg HA.out)
      have hF' : Fo wa F' N K' cc := by rw [← hcc]; exact hI.fo
      have HP : Hid (F'.p = F.p) := hI.stp.p
      obtain ⟨A', cap', rfl, hA'⟩ : ∃ A' cap', u5 = .slice A' S.length cap' ∧ (A' = none ∧ S.length = 0 ∧ cap' = 0 ∨ ∃ g', A' = some ⟨g', 0, none⟩) := by
        rcases Joins.ownsRow_forms hI.own with ⟨h1, h2⟩ | ⟨g', c', h1⟩
        · exact ⟨none, 0, by rw [h2]; exact h1, .inl ⟨rfl, h2, rfl⟩⟩
        · exact ⟨_, _, h1, .inr ⟨g', rfl⟩⟩
      obtain ⟨L, hL⟩ : ∃ L, S.length = L := ⟨_, rfl⟩
      have HI := Lib.hid hI
      have HX := Lib.hid hx
      have HL := Lib.hid hL
      have HF2 := Lib.hid hF'
      have HCC2 := Lib.hid hcc2
      have HA2 := Lib.hid hA'
      rw [hL] at hx1 hL100 ⊢
      clear hI hx hF' hcc hcc2 hSl hL hA'
      go_upto_block 2 with fail
      go_cut [7] (fun n wx => KnPost N (cc + (C + 1)) K' wa F' (sgn K' S x) (.returned n) wx)
      case first =>
        have h2 := HF2.out.wf.two
        by_cases e1 : x = -1
        · subst e1
          have HFIN : Hid (KnPost N (cc + (C + 1)) K' wa F' (sgn K' S (-1)) (.returned (.int .i64 (1 : Nat))) wa) := ⟨1, F', K', rfl, HF2.out.more (by omega), Stp.refl _ _ _, by omega, fun v => by rw [ev_1]; rfl⟩
          clear hx1 hx2 hx3
          go_wp2_with fail
          go_meet
          exact HFIN.out
        by_cases e2 : x = -2
        · subst e2
          have HFIN : Hid (KnPost N (cc + (C + 1)) K' wa F' (sgn K' S (-2)) (.returned (.int .i64 (0 : Nat))) wa) := ⟨0, F', K', rfl, HF2.out.more (by omega), Stp.refl _ _ _, by omega, fun v => by rw [ev_0]; rfl⟩
          clear hx1 hx2 hx3 e1
          go_wp2_with fail
          go_meet
          exact HFIN.out
        by_cases e3 : x = -3
        · subst e3
          obtain ⟨a, st, rfl⟩ : ∃ a st, S = a :: st := by
            cases S with
            | nil => exact absurd hx1 (by rw [← HL.out]; decide)
            | cons a st => exact ⟨a, st, rfl⟩
          obtain ⟨g', rfl⟩ : ∃ g', A' = some ⟨g', 0, none⟩ := by
            rcases HA2.out with ⟨_, h, _⟩ | h
            · simp at h
            · exact h
          have q1 : wa.cell? ⟨g', L - 1, none⟩ = some (.int .i64 a) := HI.out.cells (by have := HL.out; rw [List.length_cons] at this; rw [show L - 1 = st.length by omega]; exact rev_at a st)
          have hlt : 1 ≤ L := by have := HL.out; rw [List.length_cons] at this; omega
          have HJ : Hid (Calls Try.prog 30 #[.pointer (some ⟨F.p, 0, none⟩), .int .i64 a] wa (KnPost N (cc + C) K' wa F' fun v => !(ev K' a v))) := by
            have h := not_any hN HF2.out (HI.out.mem a (by simp)) (by rw [HC.out]; omega)
            rw [HP.out, HC.out] at h
            exact Lib.hid h
          clear hx1 hx2 hx3 e1 e2
          go_wp2_with fail
          refine HJ.out.mono ?_
          rintro e w' h
          have HFIN := Lib.hid (h.more (c' := cc + (C + 1)) (by omega) (Q' := sgn K' (a :: st) (-3)) (fun v => rfl))
          obtain ⟨n, F2, K2, rfl, h1, h2, h3, h4⟩ := h
          clear h1 h2 h3 h4
          go_wp2_with fail
          go_meet
          exact HFIN.out
        by_cases e4 : x = -4 ∨ x = -5 ∨ x = -6
        · obtain ⟨a, b, st, rfl⟩ : ∃ a b st, S = a :: b :: st := by
            have hx1 : 2 ≤ S.length := by
              rw [HL.out]
              refine Nat.le_trans (Nat.le_of_eq ?_) hx1
              unfold opn
              rw [if_neg e3, if_pos e4]
            match S, hx1 with
            | a :: b :: st, _ => exact ⟨a, b, st, rfl⟩
          obtain ⟨g', rfl⟩ : ∃ g', A' = some ⟨g', 0, none⟩ := by
            rcases HA2.out with ⟨_, h, _⟩ | h
            · simp at h
            · exact h
          obtain ⟨L2, hL2⟩ : ∃ L2, st.length = L2 := ⟨_, rfl⟩
          obtain ⟨L1, hL1⟩ : ∃ L1, (b :: st).length = L1 := ⟨_, rfl⟩
          have q1 : wa.drew.cell? ⟨g', L1, none⟩ = some (.int .i64 a) := HI.out.cells (by rw [← hL1]; exact rev_at a _)
          have q2 : wa.drew.cell? ⟨g', L2, none⟩ = some (.int .i64 b) := HI.out.cells (by rw [← hL2]; exact rev_at2 a b st)
          have q0 : wa.drew.cell? ⟨g, off + j, none⟩ = some (.int .i64 x) := q0
          have hL3 : L1 = L2 + 1 := by rw [← hL1, ← hL2]; rfl
          have hL4 : L = L1 + 1 := by rw [← hL1, ← HL.out]; rfl
          have hw1 : wrap64 ((L : Int) - 1) = (L1 : Int) := by unfold wrap64; omega
          have hw2 : wrap64 ((L : Int) - 2) = (L2 : Int) := by unfold wrap64; omega
          have hlt1 : L1 < L := by omega
          have hjm : j < m := hk
          have hlt2 : L2 < L := by omega
          have HJ : Hid (Calls Try.prog 29 #[.pointer (some ⟨F.p, 0, none⟩), .int .i64 x, .int .i64 a, .int .i64 b] wa.drew (KnPost N (cc + C) K' wa.drew F' fun v => opB x (ev K' a v) (ev K' b v))) := by
            have h := knot_join hN HF2.out.drew (op := x) e4 (HI.out.mem a (by simp)) (HI.out.mem b (by simp)) (by rw [HC.out]; omega)
            rw [HP.out, HC.out] at h
            exact Lib.hid h
          have HAP : Hid (Apt F' g) := hAPg
          have HAP2 : Hid (Apt F' g') := Lib.hid (HI.out.apt g' rfl)
          have hgl2 : g' < wa.drew.heap.size := (World.ownsRow.lt HI.out.own g' rfl).2
          have E3 : (x == -3) = false := by simp [e3]
          have E2 : (x == -2) = false := by simp [e2]
          have E1 : (x == -1) = false := by simp [e1]
          have hQ : ∀ v, opB x (ev K' a v) (ev K' b v) = sgn K' (a :: b :: st) x v := fun v => by
            unfold sgn fstep
            rw [if_neg e1, if_neg e2, if_neg e3, if_pos e4]
            rfl
          have HQ := Lib.hid hQ
          clear hx1 hx2 hx3 hL3 hL4 hL1 hL2 e1 e2 e3 hQ
          go_upto_region 18 with fail
          all_goals
            refine wp_calm ?_
            refine start_ (n := 17) (S := fun w' => w'.cell? ⟨g, off + j, none⟩ = some (.int .i64 x) ∧ w'.cell? ⟨g', L1, none⟩ = some (.int .i64 a) ∧ w'.cell? ⟨g', L2, none⟩ = some (.int .i64 b)) (ds := []) #[false, false, false, false, false, false, false, false, false, false, false, false, false, false, false, false, false] (by kernel_rfl) rfl rfl ⟨q0, q1, q2⟩ (fun hHeld => ?_)
            refine pure_ (i := 0) (N := some 45) (v := ?_) (a' := ?_) #[true, false, false, false, false, false, false, false, false, false, false, false, false, false, false, false, false] rfl rfl (by kernel_rfl) (fun _ _ _ h => h) (Or.inl ⟨by rfl, ?_⟩) ?_ ?_
            rotate_left
            · intro w'
              go_simp
              with_reducible rfl
            rotate_left
            · simp only [Act.put, List.setIfInBounds_toArray, List.set_cons_zero, List.set_cons_succ, i64_w, i32_w]
              rfl
            refine pure_ (i := 1) (N := some 46) (v := ?_) (a' := ?_) #[true, true, false, false, false, false, false, false, false, false, false, false, false, false, false, false, false] rfl rfl (by kernel_rfl) (fun _ _ _ h => h) (Or.inl ⟨by rfl, ?_⟩) ?_ ?_
            rotate_left
            · intro w'
              go_simp
              with_reducible rfl
            rotate_left
            · simp only [Act.put, List.setIfInBounds_toArray, List.set_cons_zero, List.set_cons_succ, i64_w, i32_w]
              rfl
            refine pure_ (i := 2) (N := some 47) (v := ?_) (a' := ?_) #[true, true, true, false, false, false, false, false, false, false, false, false, false, false, false, false, false] rfl rfl (by kernel_rfl) (fun _ _ _ h => h) (Or.inl ⟨by rfl, ?_⟩) ?_ ?_
            rotate_left
            · intro w'
              go_simp
              with_reducible rfl
            rotate_left
            · simp only [Act.put, List.setIfInBounds_toArray, List.set_cons_zero, List.set_cons_succ, i64_w, i32_w]
              rfl
            refine pure_ (i := 3) (N := some 48) (v := ?_) (a' := ?_) #[true, true, true, true, false, false, false, false, false, false, false, false, false, false, false, false, false] rfl rfl (by kernel_rfl) (fun _ _ _ h => h) (Or.inl ⟨by rfl, ?_⟩) ?_ ?_
            rotate_left
            · intro w'
              go_simp
              with_reducible rfl
            rotate_left
            · simp only [Act.put, List.setIfInBounds_toArray, List.set_cons_zero, List.set_cons_succ, i64_w, i32_w]
              rfl
            refine pure_ (i := 5) (N := some 50) (v := ?_) (a' := ?_) #[true, true, true, true, false, true, false, false, false, false, false, false, false, false, false, false, false] rfl rfl (by kernel_rfl) (fun _ _ _ h => h) (Or.inl ⟨by rfl, ?_⟩) ?_ ?_
            rotate_left
            · intro w'
              go_simp
              with_reducible rfl
            rotate_left
            · simp only [Act.put, List.setIfInBounds_toArray, List.set_cons_zero, List.set_cons_succ, i64_w, i32_w]
              rfl
            refine pure_ (i := 6) (N := some 51) (v := ?_) (a' := ?_) #[true, true, true, true, false, true, true, false, false, false, false, false, false, false, false, false, false] rfl rfl (by kernel_rfl) (fun _ _ _ h => h) (Or.inl ⟨by rfl, ?_⟩) ?_ ?_
            rotate_left
            · intro w'
              go_simp
              with_reducible rfl
            rotate_left
            · simp only [Act.put, List.setIfInBounds_toArray, List.set_cons_zero, List.set_cons_succ, i64_w, i32_w]
              rfl
            refine pure_ (i := 7) (N := some 52) (v := ?_) (a' := ?_) #[true, true, true, true, false, true, true, true, false, false, false, false, false, false, false, false, false] rfl rfl (by kernel_rfl) (fun _ _ _ h => h) (Or.inl ⟨by rfl, ?_⟩) ?_ ?_
            rotate_left
            · intro w'
              go_simp
              with_reducible rfl
            rotate_left
            · simp only [Act.put, List.setIfInBounds_toArray, List.set_cons_zero, List.set_cons_succ, i64_w, i32_w]
              rfl
            refine pure_ (i := 8) (N := some 53) (v := ?_) (a' := ?_) #[true, true, true, true, false, true, true, true, true, false, false, false, false, false, false, false, false] rfl rfl (by kernel_rfl) (fun _ _ _ h => h) (Or.inl ⟨by rfl, ?_⟩) ?_ ?_
            rotate_left
            · intro w'
              go_simp
              with_reducible rfl
            rotate_left
            · simp only [Act.put, List.setIfInBounds_toArray, List.set_cons_zero, List.set_cons_succ, i64_w, i32_w]
              rfl
            refine pure_ (i := 10) (N := some 55) (v := ?_) (a' := ?_) #[true, true, true, true, false, true, true, true, true, false, true, false, false, false, false, false, false] rfl rfl (by kernel_rfl) (fun _ _ _ h => h) (Or.inl ⟨by rfl, ?_⟩) ?_ ?_
            rotate_left
            · intro w'
              go_simp
              with_reducible rfl
            rotate_left
            · simp only [Act.put, List.setIfInBounds_toArray, List.set_cons_zero, List.set_cons_succ, i64_w, i32_w]
              rfl
            refine pure_ (i := 11) (N := some 56) (v := ?_) (a' := ?_) #[true, true, true, true, false, true, true, true, true, false, true, true, false, false, false, false, false] rfl rfl (by kernel_rfl) (fun _ _ _ h => h) (Or.inl ⟨by rfl, ?_⟩) ?_ ?_
            rotate_left
            · intro w'
              go_simp
              with_reducible rfl
            rotate_left
            · simp only [Act.put, List.setIfInBounds_toArray, List.set_cons_zero, List.set_cons_succ, i64_w, i32_w]
              rfl
            refine pure_ (i := 12) (N := some 57) (v := ?_) (a' := ?_) #[true, true, true, true, false, true, true, true, true, false, true, true, true, false, false, false, false] rfl rfl (by kernel_rfl) (fun _ _ _ h => h) (Or.inl ⟨by rfl, ?_⟩) ?_ ?_
            rotate_left
            · intro w'
              go_simp
              with_reducible rfl
            rotate_left
            · simp only [Act.put, List.setIfInBounds_toArray, List.set_cons_zero, List.set_cons_succ, i64_w, i32_w]
              rfl
            refine pure_ (i := 13) (N := some 58) (v := ?_) (a' := ?_) #[true, true, true, true, false, true, true, true, true, false, true, true, true, true, false, false, false] rfl rfl (by kernel_rfl) (fun _ _ _ h => h) (Or.inl ⟨by rfl, ?_⟩) ?_ ?_
            rotate_left
            · intro w'
              go_simp
              with_reducible rfl
            rotate_left
            · simp only [Act.put, List.setIfInBounds_toArray, List.set_cons_zero, List.set_cons_succ, i64_w, i32_w]
              rfl
            refine take_ (i := 4) (N := some 49) (v := ?_) (a' := ?_) #[true, true, true, true, true, true, true, true, true, false, true, true, true, true, false, false, false] rfl rfl (by kernel_rfl) (fun _ _ _ h => h) (Or.inl ⟨by rfl, ?_⟩) hHeld ?_ ?_
            rotate_left
            · rintro w' ⟨s0, s1, s2⟩
              go_simp
              with_reducible rfl
            rotate_left
            · simp only [Act.put, List.setIfInBounds_toArray, List.set_cons_zero, List.set_cons_succ, i64_w, i32_w]
              rfl
            refine take_ (i := 9) (N := some 54) (v := ?_) (a' := ?_) #[true, true, true, true, true, true, true, true, true, true, true, true, true, true, false, false, false] rfl rfl (by kernel_rfl) (fun _ _ _ h => h) (Or.inl ⟨by rfl, ?_⟩) hHeld ?_ ?_
            rotate_left
            · rintro w' ⟨s0, s1, s2⟩
              go_simp
              with_reducible rfl
            rotate_left
            · simp only [Act.put, List.setIfInBounds_toArray, List.set_cons_zero, List.set_cons_succ, i64_w, i32_w]
              rfl
            refine take_ (i := 14) (N := some 59) (v := ?_) (a' := ?_) #[true, true, true, true, true, true, true, true, true, true, true, true, true, true, true, false, false] rfl rfl (by kernel_rfl) (fun _ _ _ h => h) (Or.inl ⟨by rfl, ?_⟩) hHeld ?_ ?_
            rotate_left
            · rintro w' ⟨s0, s1, s2⟩
              go_simp
              with_reducible rfl
            rotate_left
            · simp only [Act.put, List.setIfInBounds_toArray, List.set_cons_zero, List.set_cons_succ, i64_w, i32_w]
              rfl
            refine one_ (i := 15) (N := some 60) #[true, true, true, true, true, true, true, true, true, true, true, true, true, true, true, true, false] rfl rfl (by kernel_rfl) (by decide) (fun K hK => ?_)
            refine goes_ Try.func29 (by kernel_rfl) rfl #[.pointer (some ⟨F.p, 0, none⟩), .int .i64 x, .int .i64 a, .int .i64 b] (by rfl) rfl rfl (by simp only [List.map_toArray, List.map_cons, List.map_nil]; rfl) ?_
            with_reducible refine HJ.out.mono ?_
            rintro e V h
            have HFIN := Lib.hid (h.more (c' := cc + (C + 1)) (by omega) HQ.out)
            obtain ⟨n, F2, K2, rfl, h1, h2, h3, h4⟩ := h
            clear h1 h3 h4
            refine ⟨_, rfl, ?_⟩
            refine hK.out _ _ ⟨cell_stp h2 hgl HAP.out hHeld.1, cell_stp h2 hgl2 HAP2.out hHeld.2.1, cell_stp h2 hgl2 HAP2.out hHeld.2.2⟩ (fun hHeld => ?_)
            clear hK K
            refine norm_ (a' := ?_) ?_ ?_
            rotate_left
            · show Act.put _ (some 60) _ = _
              simp only [Act.put, List.setIfInBounds_toArray, List.set_cons_zero, List.set_cons_succ, i64_w, i32_w]
              rfl
            refine pure_ (i := 16) (N := some 7) (v := ?_) (a' := ?_) #[true, true, true, true, true, true, true, true, true, true, true, true, true, true, true, true, true] rfl rfl (by kernel_rfl) (fun _ _ _ h => h) (Or.inl ⟨by rfl, ?_⟩) ?_ ?_
            rotate_left
            · intro w'
              go_simp
              with_reducible rfl
            rotate_left
            · simp only [Act.put, List.setIfInBounds_toArray, List.set_cons_zero, List.set_cons_succ, i64_w, i32_w]
              rfl
            refine done_ (by kernel_rfl) ?_
            refine calm_normal ?_
            go_wp2_with fail
            go_meet
            exact HFIN.out.of_drew
        · have hx0 : 0 ≤ x := by omega
          have E1 : (x == -1) = false := by simp [e1]
          have E2 : (x == -2) = false := by simp [e2]
          have E3 : (x == -3) = false := by simp [e3]
          have E4 : (x == -4) = false := by simp; omega
          have E5 : (x == -5) = false := by simp; omega
          have E6 : (x == -6) = false := by simp; omega
          have hjm : j < m := hk
          have HJ : Hid (Calls Try.prog 31 #[.pointer (some ⟨F.p, 0, none⟩), .int .i64 x, .bool true] wa (KnPost N (cc + 1) K' wa F' fun v => v x.toNat)) := by
            have h := literal_any hN HF2.out (o := x.toNat) (by omega) (by omega)
            rw [HP.out, Int.toNat_of_nonneg hx0] at h
            exact Lib.hid h
          have hQ : ∀ v : Nat → Bool, v x.toNat = sgn K' S x v := fun v => by
            unfold sgn fstep
            rw [if_neg e1, if_neg e2, if_neg e3, if_neg e4]
            rfl
          have HQ := Lib.hid hQ
          clear hx1 hx2 hx3 hx0 e1 e2 e3 e4 hQ
          go_wp2_with fail
          refine HJ.out.mono ?_
          rintro e w' h
          have HFIN := Lib.hid (h.more (c' := cc + (C + 1)) (by omega) HQ.out)
          obtain ⟨n, F2, K2, rfl, h1, h2, h3, h4⟩ := h
          clear h1 h2 h3 h4
          go_wp2_with fail
          go_meet
          exact HFIN.out
      case rest =>
        obtain ⟨n, F2, K2, he, h1, h2, h3, h4⟩ := hcut
        obtain rfl := Ending.returned.inj he
        clear he
        obtain ⟨wb, rfl⟩ : ∃ wb : World, wb = wc := ⟨_, rfl⟩
        have q0 : wb.cell? ⟨g, off + j, none⟩ = some (.int .i64 x) := cell_stp h2 hgl hAPg.out q0
        have hrow : wb.ownsRow w.heap.size 3 1 (.slice A' S.length cap') S.length (S.reverse.map iv) := row_stp HI.out.own h2 HI.out.apt
        have hzb : w.heap.size ≤ wb.heap.size := Nat.le_trans HI.out.stp.size h2.size
        have H1 := Lib.hid h1
        have H2 := Lib.hid h2
        have H4 := Lib.hid h4
        have HROW := Lib.hid hrow
        clear h1 h2 h4 hrow
        have hop := opn_le x
        obtain ⟨o, ho⟩ : ∃ o, opn x = o := ⟨_, rfl⟩
        obtain ⟨L', hL'⟩ : ∃ L', L - o = L' := ⟨_, rfl⟩
        have HOP : Hid (Calls Try.prog 32 #[.int .i64 x] wb fun e w' => e = .returned (.int .i64 (o : Nat)) ∧ Drawn0 wb w') := Lib.hid (options_operands.calls x o wb (by rw [← ho]; exact opn_f x))
        have HO := Lib.hid ho
        rw [ho] at hop hx1
        have hL'' : L' ≤ L := by omega
        have HL' := Lib.hid hL'
        clear ho hL' hx2 hx3
        go_wp2_with fail
        refine HOP.out.mono ?_
        rintro e wd ⟨rfl, hD⟩
        have hBd := hD.below
        have HFd := Lib.hid (H1.out.below hBd)
        have HSd := Lib.hid (HI.out.stp.trans (H2.out.trans (Stp.of_below F2 K2 hBd)))
        have hrow : wd.ownsRow w.heap.size 3 1 (.slice A' S.length cap') S.length (S.reverse.map iv) := own_below HROW.out hBd
        have hzd : w.heap.size ≤ wd.heap.size := Nat.le_trans hzb hBd.size
        have hrev : S.reverse.map iv = (S.drop o).reverse.map iv ++ (S.take o).reverse.map iv := by
          rw [← List.map_append, ← List.reverse_append, List.take_append_drop]
        rw [hrev] at hrow
        have hcut' := own_cut (n' := L') (by rw [List.length_map, List.length_reverse, List.length_drop, HL.out, HL'.out, Nat.mul_one]) (by rw [HL.out]; exact hL'') hrow
        have HCUT := Lib.hid hcut'
        have hlc : A' = none ∨ L ≤ cap' := by
          rcases HROW.out.2 with ⟨h, _⟩ | ⟨_, _, _, h, _, _, hle, _⟩
          · exact .inl (Value.slice.inj h).1
          · rw [(Value.slice.inj h).2.2, ← HL.out]; exact .inr hle
        have hap2 : ∀ b, (Value.slice A' L' cap').ownBlock = some b → Apt F2 b := fun b hb => H2.out.apt (World.ownsRow.lt HI.out.own b ((ob _ _ _ _).trans hb)).2 (HI.out.apt b ((ob _ _ _ _).trans hb))
        have HAP2 := Lib.hid hap2
        have hnew : ∀ b, wd.heap.size ≤ b → Apt F2 b := fun b hb => HFd.out.apt hb
        have HNEW := Lib.hid hnew
        have hfinal : ∀ v1 w2, w2.ownsRow w.heap.size 3 1 v1 (L' + 1) ((S.drop o).reverse.map iv ++ [.int .i64 (n : Nat)]) → wd.grownBy w2 (Value.slice A' L' cap').ownBlock → (v1.ownBlock = (Value.slice A' L' cap').ownBlock ∨ ∃ b, v1.ownBlock = some b ∧ wd.heap.size ≤ b) → GInv N c (C + 1) m Ks w F f j v1 w2 (n :: S.drop o) F2 K2 := fun v1 w2 hown hgr hat => by
          have hlen : (n :: S.drop o).length = L' + 1 := by rw [List.length_cons, List.length_drop, HL.out, HL'.out]
          refine ⟨?_, ?_, ?_, ?_, ?_, ?_⟩
          · rw [← HCC2.out]
            exact HFd.out.grown hgr HAP2.out
          · exact HSd.out.grown hgr fun b hb => (World.ownsRow.lt HCUT.out b hb).1
          · rw [hlen, List.reverse_cons, List.map_append]
            exact hown
          · intro b hb
            rcases hat with h | ⟨b', h, hb'⟩
            · exact HAP2.out b (h.symm.trans hb)
            · rw [h] at hb
              obtain rfl := Option.some.inj hb
              exact HNEW.out _ hb'
          · intro y hy
            rcases List.mem_cons.1 hy with rfl | hy
            · exact h3
            · exact Nat.lt_of_lt_of_le (HI.out.mem y (List.mem_of_mem_drop hy)) H2.out.ext.len
          · intro v
            rw [drop_at HX.out, fstk, ← HI.out.sem v, fstep_eq, HO.out, List.map_cons, H4.out v, ← List.map_drop]
            refine congrArg (_ :: ·) ?_
            rw [List.map_drop, List.map_drop]
            refine congrArg (List.drop o) ?_
            refine List.map_congr_left fun y hy => ?_
            exact ev_ext HF2.out.wf H1.out.wf H2.out.ext v y (HI.out.mem y hy)
        have HFINAL := Lib.hid hfinal
        have q0 : wd.cell? ⟨g, off + j, none⟩ = some (.int .i64 x) := (World.cell?_of_block (hBd.block g (Nat.lt_of_lt_of_le hgl H2.out.size))).trans q0
        have hL3 : ((L : Int) - (o : Int)).toNat = L' := by have := HL'.out; omega
        clear hfinal hrow hcut' hrev hap2 hnew hBd hD
        cases A' with
        | none =>
          obtain ⟨rfl, rfl⟩ : L = 0 ∧ cap' = 0 := by
            rcases HA2.out with ⟨_, h1, h2⟩ | ⟨_, h⟩
            · exact ⟨HL.out.symm.trans h1, h2⟩
            · cases h
          obtain rfl : o = 0 := by omega
          obtain rfl : L' = 0 := by omega
          go_wp2_with (at_builtin; refine print_append_cells (w0 := wd) (W := wd) w.heap.size rfl _ _ 26 3 _ 1 8 rfl Try.underlying26 info3 rfl (by decide) (by decide) (.slice none 0 0) 0 ((S.drop 0).reverse.map iv) [.int .i64 (n : Nat)] rfl rfl rfl (iv_one n) HCUT.out (Below.refl _ _) hzd (by omega) ?_; intro v1 w2 hown hB hgr hat)
          exact ⟨⟨j, _, rfl, by omega, rfl, Lib.hid ⟨_, _, _, HFINAL.out _ _ hown hgr hat⟩⟩, by simp [intOf]⟩
        | some p =>
          have hle : L ≤ cap' := by
            rcases hlc with h | h
            · cases h
            · exact h
          obtain rfl : L' = L - o := HL'.out.symm
          obtain ⟨g', rfl⟩ : ∃ g', p = ⟨g', 0, none⟩ := by
            rcases HA2.out with ⟨h, _⟩ | ⟨g', h⟩
            · cases h
            · exact ⟨g', Option.some.inj h⟩
          go_wp2_with (at_builtin; refine print_append_cells (w0 := wd) (W := wd) w.heap.size rfl _ _ 26 3 _ 1 8 rfl Try.underlying26 info3 rfl (by decide) (by decide) (.slice (some ⟨g', 0, none⟩) (L - o) cap') (L - o) ((S.drop o).reverse.map iv) [.int .i64 (n : Nat)] rfl rfl rfl (iv_one n) HCUT.out (Below.refl _ _) hzd (by omega) ?_; intro v1 w2 hown hB hgr hat)
          exact ⟨⟨j, _, rfl, by omega, rfl, Lib.hid ⟨_, _, _, HFINAL.out _ _ hown hgr hat⟩⟩, by simp [intOf]⟩
end Go.Proofs.Ytiglkpgoakibaaa
