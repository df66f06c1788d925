/- A knot and what lies below it are numbered (knotsOf's function literal): the walk. Conditions: the forest, what is captured and the row lie there, apart. -/
import Derived.Test.YtiglkpgoakibaaaMemo
import Derived.Test.YtiglkpgoakibaaaGrow
namespace Go.Proofs.Ytiglkpgoakibaaa
open Go.RowKit Go.Maps PTopKnots Go.Proofs.YtiglkpgoakibaaaW.PrintWords Go.Proofs.YtiglkpgoakibaaaW.PrintLast
set_option linter.unusedVariables false
attribute [local go_sem] Oper.semAt_some
set_option linter.unusedSimpArgs false

/-- A number stands for a node. -/
def En (idx : List Nat) (x : Int) (n : Nat) : Prop := (x = -1 ∧ n = 0) ∨ (x = -2 ∧ n = 1) ∨ ∃ j : Nat, x = j ∧ idx[j]? = some n
theorem En.ext {idx : List Nat} {x : Int} {n : Nat} (h : En idx x n) (t : List Nat) : En (idx ++ t) x n := by
  rcases h with h | h | ⟨j, h1, h2⟩
  · exact .inl h
  · exact .inr (.inl h)
  · exact .inr (.inr ⟨j, h1, by rw [List.getElem?_append_left (List.getElem?_eq_some_iff.1 h2).1]; exact h2⟩)
/-- A knot as it is handed out: its option, its two ways. -/
structure Kr where
  o : Nat
  l : Int
  h : Int
def rcl (k : Kr) : List Value := [.int .i64 k.o, .int .i64 k.l, .int .i64 k.h]
/-- The knots handed out stand for nodes; each way leads to one before it. -/
structure Rk (Ks : List Kn) (idx : List Nat) (R : List Kr) : Prop where
  len : R.length = idx.length
  kn : ∀ i r, R[i]? = some r → ∃ n k, idx[i]? = some n ∧ 2 ≤ n ∧ Ks[n]? = some k ∧ r.o = k.o ∧ En (idx.take i) r.l k.l ∧ En (idx.take i) r.h k.h
theorem Rk.snoc {Ks : List Kn} {idx : List Nat} {R : List Kr} (h : Rk Ks idx R) {n : Nat} {k : Kn} {x y : Int} (h2 : 2 ≤ n) (hk : Ks[n]? = some k) (hx : En idx x k.l) (hy : En idx y k.h) : Rk Ks (idx ++ [n]) (R ++ [⟨k.o, x, y⟩]) := by
  have hl := h.len
  refine ⟨by simp [hl], fun i r hr => ?_⟩
  rcases Nat.lt_or_ge i R.length with hi | hi
  · rw [List.getElem?_append_left hi] at hr
    obtain ⟨n', k', a1, a2, a3, a4, a5, a6⟩ := h.kn i r hr
    refine ⟨n', k', by rw [List.getElem?_append_left (by omega)]; exact a1, a2, a3, a4, ?_, ?_⟩
    · rw [List.take_append_of_le_length (by omega)]; exact a5
    · rw [List.take_append_of_le_length (by omega)]; exact a6
  · have hi2 := (List.getElem?_eq_some_iff.1 hr).1
    rw [List.length_append] at hi2
    simp only [List.length_cons, List.length_nil] at hi2
    obtain rfl : i = R.length := by omega
    rw [List.getElem?_append_right (Nat.le_refl _), Nat.sub_self] at hr
    cases hr
    refine ⟨n, k, by rw [hl, List.getElem?_append_right (Nat.le_refl _), Nat.sub_self]; rfl, h2, hk, rfl, ?_, ?_⟩
    · rw [hl, List.take_append_of_le_length (Nat.le_refl _), List.take_length]; exact hx
    · rw [hl, List.take_append_of_le_length (Nat.le_refl _), List.take_length]; exact hy
/-- What the memo says. -/
def MS (idx : List Nat) (k : Lit) (x : Int) : Prop := ∀ n : Nat, n ≤ 1099511627776 → k = .int .i64 n → En idx x n
def MH (k : Lit) : Prop := k = .int .i64 0 ∨ k = .int .i64 1
theorem ms_ext {idx : List Nat} (t : List Nat) (k : Lit) (x : Int) (h : MS idx k x) : MS (idx ++ t) k x := fun n hn hk => (h n hn hk).ext t

/-- What the function literal captures, and the row of knots. -/
structure Env (w : World) (F : Fb) (B b2 b4 b6 b7 mb cm : Nat) (Ks : List Kn) (idx : List Nat) (R : List Kr) (v : Value) : Prop where
  h2 : w.heap[b2]? = some (.cells #[.pointer (some ⟨F.p, 0, none⟩)] 55 (0, 0))
  h4 : w.heap[b4]? = some (.cells #[v] 34 (0, 0))
  h6 : w.heap[b6]? = some (.cells #[.map (some mb)] 61 (0, 0))
  h7 : w.heap[b7]? = some (.cells #[.func (.func 33) #[] #[.pointer (some ⟨b6, 0, none⟩), .pointer (some ⟨b2, 0, none⟩), .pointer (some ⟨b7, 0, none⟩), .pointer (some ⟨b4, 0, none⟩)]] 79 (0, 0))
  memo : SoundH w 3 mb cm (MS idx) MH
  row : w.ownsRow B 44 3 v R.length (R.flatMap rcl)
  rk : Rk Ks idx R
  n1 : b4 ≠ F.p
  n2 : b4 ≠ F.kb
  n3 : mb ≠ F.p
  n4 : mb ≠ F.kb
  B2 : B ≤ b2
  B4 : B ≤ b4
  B6 : B ≤ b6
  B7 : B ≤ b7
  Bm : B ≤ mb
/-- Of what lies there, only the row of knots, its variable and the memo may turn. -/
structure Wf (w w' : World) (b4 mb : Nat) (r : Option Nat) : Prop where
  os : w'.os = w.os
  tape : w'.tape = w.tape
  output : w'.output = w.output
  size : w.heap.size ≤ w'.heap.size
  blk : ∀ b, b < w.heap.size → b ≠ b4 → b ≠ mb → some b ≠ r → w'.heap[b]? = w.heap[b]?
theorem Wf.refl (w : World) (b4 mb : Nat) (r : Option Nat) : Wf w w b4 mb r := ⟨rfl, rfl, rfl, Nat.le_refl _, fun _ _ _ _ _ => rfl⟩
theorem Wf.of_below {w w' : World} (h : Below w.heap.size w w') (b4 mb : Nat) (r : Option Nat) : Wf w w' b4 mb r := ⟨h.os, h.tape, h.output, h.size, fun b hb _ _ _ => h.block b hb⟩
theorem Wf.trans {w w1 w2 : World} {b4 mb : Nat} {r r1 : Option Nat} (h : Wf w w1 b4 mb r) (g : Wf w1 w2 b4 mb r1) (hr : r1 = r ∨ ∃ b, r1 = some b ∧ w.heap.size ≤ b) : Wf w w2 b4 mb r where
  os := g.os.trans h.os
  tape := g.tape.trans h.tape
  output := g.output.trans h.output
  size := Nat.le_trans h.size g.size
  blk := fun b hb e1 e2 e3 => by
    have hz := h.size
    refine (g.blk b (by omega) e1 e2 (fun e => ?_)).trans (h.blk b hb e1 e2 e3)
    rcases hr with hr | ⟨b', hr, hb'⟩
    · exact e3 (e.trans hr)
    · have := Option.some.inj (e.trans hr)
      omega
theorem Wf.below {w w' : World} {b4 mb B : Nat} {r : Option Nat} (h : Wf w w' b4 mb r) (hB : B ≤ w.heap.size) (h4 : B ≤ b4) (hm : B ≤ mb) (hr : ∀ b, r = some b → B ≤ b) : Below B w w' :=
  ⟨h.os, h.tape, h.output, h.size, fun b hb => h.blk b (by omega) (by omega) (by omega) (fun e => by have := hr b e.symm; omega)⟩
theorem Fo.belB {w w' : World} {F : Fb} {N c B : Nat} {K : List Kn} (h : Fo w F N K c) (hb : Below B w w') (f1 : F.p < B) (f2 : F.kb < B) (f3 : F.mb < B) (f4 : F.jb < B) : Fo w' F N K c := by
  refine ⟨(hb.block _ f1).trans h.box, ?_, h.kn.same (hb.block _ f3), h.jo.same (hb.block _ f4), h.wf, h.len, h.n1, h.n2, h.n3, h.n4, h.n5, h.n6⟩
  rcases h.row.2 with ⟨e, _⟩ | ⟨g, cap, cur, e, hg, hh, r⟩
  · cases e
  · have hg' : F.kb = g := by
      have := (Value.slice.inj e).1
      exact congrArg Addr.block (Option.some.inj this)
    exact ⟨h.row.1, .inr ⟨g, cap, cur, e, hg, (hb.block _ (by omega)).trans hh, r⟩⟩
theorem Env.wf {w w' : World} {F : Fb} {B b2 b4 b6 b7 mb cm : Nat} {Ks : List Kn} {idx : List Nat} {R : List Kr} {v : Value} (h : Env w F B b2 b4 b6 b7 mb cm Ks idx R v) (hb : Below w.heap.size w w') : Env w' F B b2 b4 b6 b7 mb cm Ks idx R v :=
  { h with
    h2 := (hb.block _ (blk_lt' h.h2)).trans h.h2
    h4 := (hb.block _ (blk_lt' h.h4)).trans h.h4
    h6 := (hb.block _ (blk_lt' h.h6)).trans h.h6
    h7 := (hb.block _ (blk_lt' h.h7)).trans h.h7
    memo := h.memo.same (hb.block _ h.memo.sound.lt)
    row := own_below h.row hb }
def wcost : Nat → Nat
  | 0 => 0
  | d + 1 => wcost d + wcost d + 1
def WPost (w : World) (F : Fb) (B b2 b4 b6 b7 mb cm d : Nat) (Ks : List Kn) (idx : List Nat) (R : List Kr) (v : Value) (n : Nat) (e : Ending) (w' : World) : Prop :=
  ∃ (x : Int) (t : List Nat) (R' : List Kr) (v' : Value), e = .returned (.int .i64 x) ∧ Env w' F B b2 b4 b6 b7 mb (cm + wcost d) Ks (idx ++ t) R' v' ∧ En (idx ++ t) x n ∧ R'.length ≤ R.length + wcost d ∧ Wf w w' b4 mb v.ownBlock ∧ (v'.ownBlock = v.ownBlock ∨ ∃ b, v'.ownBlock = some b ∧ w.heap.size ≤ b)
def WalkOk (N d : Nat) : Prop := ∀ (w : World) (F : Fb) (Ks : List Kn) (c B b2 b4 b6 b7 mb cm n : Nat) (idx : List Nat) (R : List Kr) (v : Value), Fo w F N Ks c → c ≤ 1073741824 → F.p < B → F.kb < B → F.mb < B → F.jb < B → B ≤ w.heap.size → Env w F B b2 b4 b6 b7 mb cm Ks idx R v → cm + wcost d ≤ 1073741824 → R.length + wcost d ≤ 1073741824 → n < Ks.length → N - lv Ks n ≤ d →
  Calls Try.prog 33 #[.int .i64 n, .pointer (some ⟨b6, 0, none⟩), .pointer (some ⟨b2, 0, none⟩), .pointer (some ⟨b7, 0, none⟩), .pointer (some ⟨b4, 0, none⟩)] w (WPost w F B b2 b4 b6 b7 mb cm d Ks idx R v n)
theorem info44 : (Try.prog.info? 44).map (fun i => (i.zero, i.size, i.bytes)) = some (some (.agg #[.int .i64 0, .int .i64 0, .int .i64 0]), 3, 24) := by kernel_rfl
theorem En.bound {Ks : List Kn} {idx : List Nat} {R : List Kr} (h : Rk Ks idx R) {x : Int} {n : Nat} (he : En idx x n) : -2 ≤ x ∧ x < R.length := by
  rcases he with ⟨h1, _⟩ | ⟨h1, _⟩ | ⟨j, h1, h2⟩
  · omega
  · omega
  · have := (List.getElem?_eq_some_iff.1 h2).1
    have := h.len
    omega

set_option maxRecDepth 100000 in
set_option maxHeartbeats 4000000 in
theorem walk_step {N d : Nat} (hN : N ≤ 40) (ih : ∀ d', d = d' + 1 → WalkOk N d') : WalkOk N d := by
  intro w F Ks c B b2 b4 b6 b7 mb cm n idx R v hf hc f1 f2 f3 f4 hB hE hcm hRl hn hd
  have hlen := hf.len
  obtain ⟨x, bb, hlk, hS, hH⟩ := hE.memo.look law3 Try.underlying61 zero3 (key3 (n := n) (by omega))
  have hlk' := hlk w rfl
  have q6 : w.cell? ⟨b6, 0, none⟩ = some (.map (some mb)) := (blk_cell' hE.h6 0).trans rfl
  cases bb
  · have hn2 : 2 ≤ n := by
      rcases Nat.lt_or_ge n 2 with h | h
      · rcases (show n = 0 ∨ n = 1 by omega) with rfl | rfl
        · exact absurd (hH (.inl rfl)) (by decide)
        · exact absurd (hH (.inr rfl)) (by decide)
      · exact h
    obtain ⟨kn, hkn⟩ := hf.wf.get hn
    obtain ⟨c0, c1, c2⟩ := hf.cell hkn
    obtain ⟨b0, b1, b2', b3, b4', b5⟩ := hf.wf.kn n kn hn2 hkn
    have hlv := lv_of hkn
    rw [hlv] at hd
    obtain ⟨d', rfl⟩ : ∃ d', d = d' + 1 := ⟨d - 1, by omega⟩
    have q2 : w.cell? ⟨b2, 0, none⟩ = some (.pointer (some ⟨F.p, 0, none⟩)) := (blk_cell' hE.h2 0).trans rfl
    have q7 : w.cell? ⟨b7, 0, none⟩ = some (.func (.func 33) #[] #[.pointer (some ⟨b6, 0, none⟩), .pointer (some ⟨b2, 0, none⟩), .pointer (some ⟨b7, 0, none⟩), .pointer (some ⟨b4, 0, none⟩)]) := (blk_cell' hE.h7 0).trans rfl
    have p1 : w.cell? ⟨F.p, 1, none⟩ = some (.slice (some ⟨F.kb, 0, none⟩) Ks.length F.cap) := (blk_cell' hf.box 1).trans rfl
    have hu71 := Try.underlying71
    have IH := Lib.hid (ih d' rfl)
    have HF := Lib.hid hf
    have HE := Lib.hid hE
    have HKN := Lib.hid hkn
    have HD : Hid (N - lv Ks kn.l ≤ d') := Lib.hid (sub_step hd b4')
    have HD2 : Hid (N - lv Ks kn.h ≤ d') := Lib.hid (sub_step hd b5)
    have bl : kn.l < Ks.length := by omega
    have bh : kn.h < Ks.length := by omega
    have hw : wcost (d' + 1) = wcost d' + wcost d' + 1 := rfl
    have HW := Lib.hid hw
    rw [hw] at hcm hRl
    clear hf hE hS hH hlk ih hkn b0 b1 b2' b3 b4' b5 hlv hd hw
    go_enter Try.func33, Try.ntmps33
    go_upto_region 5 with fail
    obtain ⟨w1, hw1⟩ : ∃ w1, w.alloc (.cells #[.int .i64 kn.o, .int .i64 kn.l, .int .i64 kn.h] 71) = w1 := ⟨_, rfl⟩
    have hB1 : Below w.heap.size w w1 := by rw [← hw1]; exact (Below.refl _ w).alloc (Nat.le_refl _) _
    have k1 : w1.heap[w.heap.size]? = some (.cells #[.int .i64 kn.o, .int .i64 kn.l, .int .i64 kn.h] 71 (0, 0)) := by rw [← hw1]; exact allocNew _ _ _ rfl
    have HE1 := Lib.hid (HE.out.wf hB1)
    have HF1 := Lib.hid (HF.out.below hB1)
    have K1 := Lib.hid k1
    have HB1 := Lib.hid hB1
    have z1 := hB1.size
    rw [hw1]
    have r7 : w1.cell? ⟨b7, 0, none⟩ = some (.func (.func 33) #[] #[.pointer (some ⟨b6, 0, none⟩), .pointer (some ⟨b2, 0, none⟩), .pointer (some ⟨b7, 0, none⟩), .pointer (some ⟨b4, 0, none⟩)]) := (blk_cell' HE1.out.h7 0).trans rfl
    have r1 : w1.cell? ⟨w.heap.size, 1, none⟩ = some (.int .i64 kn.l) := (blk_cell' k1 1).trans rfl
    have HJ1 := Lib.hid (IH.out w1 F Ks c B b2 b4 b6 b7 mb cm kn.l idx R v HF1.out hc f1 f2 f3 f4 (by omega) HE1.out (by omega) (by omega) bl HD.out)
    clear hw1 hB1 k1 q2 q6 q7 p1 c0 c1 c2 hlk'
    go_wp2_with fail
    refine HJ1.out.mono ?_
    rintro e w2 ⟨x1, t1, R1, v1, rfl, hE2, hen1, hl1, hW2, hv1⟩
    have HE2 := Lib.hid hE2
    have HEN1 := Lib.hid hen1
    have HW2 := Lib.hid hW2
    have HV1 := Lib.hid hv1
    have z2 := hW2.size
    have hrl1 : ∀ b, v.ownBlock = some b → B ≤ b := fun b hb => (World.ownsRow.lt HE1.out.row b hb).1
    have HF2 := Lib.hid (HF1.out.belB (hW2.below (by omega) HE1.out.B4 HE1.out.Bm hrl1) f1 f2 f3 f4)
    have hg9 : w.heap.size < w1.heap.size := blk_lt' K1.out
    have e4 : w.heap.size ≠ b4 := by have := blk_lt' HE.out.h4; omega
    have em : w.heap.size ≠ mb := by have := HE.out.memo.sound.lt; omega
    have ev : some w.heap.size ≠ v.ownBlock := fun e => by have := (World.ownsRow.lt HE.out.row _ e.symm).2; omega
    have k2 : w2.heap[w.heap.size]? = some (.cells #[.int .i64 kn.o, .int .i64 kn.l, .int .i64 kn.h] 71 (0, 0)) := (hW2.blk _ hg9 e4 em ev).trans K1.out
    have K2 := Lib.hid k2
    have r7 : w2.cell? ⟨b7, 0, none⟩ = some (.func (.func 33) #[] #[.pointer (some ⟨b6, 0, none⟩), .pointer (some ⟨b2, 0, none⟩), .pointer (some ⟨b7, 0, none⟩), .pointer (some ⟨b4, 0, none⟩)]) := (blk_cell' hE2.h7 0).trans rfl
    have r1 : w2.cell? ⟨w.heap.size, 2, none⟩ = some (.int .i64 kn.h) := (blk_cell' k2 2).trans rfl
    have HJ2 := Lib.hid (IH.out w2 F Ks c B b2 b4 b6 b7 mb (cm + wcost d') kn.h (idx ++ t1) R1 v1 HF2.out hc f1 f2 f3 f4 (by omega) HE2.out (by omega) (by omega) bh HD2.out)
    clear hE2 hen1 hW2 hv1 k2 hrl1 ev
    go_wp2_with fail
    refine HJ2.out.mono ?_
    rintro e w3 ⟨x2, t2, R2, v2, rfl, hE3, hen2, hl2, hW3, hv2⟩
    have HE3 := Lib.hid hE3
    have HEN2 := Lib.hid hen2
    have HW3 := Lib.hid hW3
    have HV2 := Lib.hid hv2
    have z3 := hW3.size
    have ev : some w.heap.size ≠ v1.ownBlock := fun e => by
      rcases HV1.out with h | ⟨b, h, hb⟩
      · have := (World.ownsRow.lt HE.out.row _ (h.symm.trans e.symm)).2; omega
      · have := Option.some.inj (e.trans h); omega
    have k3 : w3.heap[w.heap.size]? = some (.cells #[.int .i64 kn.o, .int .i64 kn.l, .int .i64 kn.h] 71 (0, 0)) := (hW3.blk _ (by omega) e4 em ev).trans K2.out
    have r4 : w3.cell? ⟨b4, 0, none⟩ = some v2 := (blk_cell' hE3.h4 0).trans rfl
    have r0 : w3.cell? ⟨w.heap.size, 0, none⟩ = some (.int .i64 kn.o) := (blk_cell' k3 0).trans rfl
    have h4z : w3.frozen? ⟨b4, 0, none⟩ = false := blk_frozen' hE3.h4 0
    clear hE3 hen2 hW3 hv2 k3 ev r7 r1 e4 em
    go_upto_region 8 with (at_builtin; refine print_append_cells (w0 := w3) (W := w3) B rfl _ _ 34 44 _ 3 24 rfl Try.underlying34 info44 rfl (by decide) (by decide) v2 R2.length (R2.flatMap rcl) [.int .i64 kn.o, .int .i64 x1, .int .i64 x2] rfl rfl rfl (three_one _ _ _) HE3.out.row (Below.refl _ _) (by omega) (by omega) ?_; intro v3 w4 hown hB4 hgr hat; obtain ⟨g1, cap1, rfl⟩ := ownsRow_succ hown; have hb4 : w4.heap[b4]? = some (.cells #[v2] 34 (0, 0)) := (hgr.block _ (blk_lt' HE3.out.h4) (own_ne HE3.out.row HE3.out.h4 (by decide))).trans HE3.out.h4; have h4c : w4.cell? ⟨b4, 0, none⟩ = some v2 := (blk_cell' hb4 0).trans rfl; have h4y : w4.frozen? ⟨b4, 0, none⟩ = false := blk_frozen' hb4 0)
    obtain ⟨w5, hw5⟩ : ∃ w5, w4.setCell ⟨b4, 0, none⟩ (.slice (some ⟨g1, 0, none⟩) (R2.length + 1) cap1) = w5 := ⟨_, rfl⟩
    have hg45 : w4.grownBy w5 (some b4) := by rw [← hw5]; exact grown_set _ _ _
    have hb5 : w5.heap[b4]? = some (.cells #[.slice (some ⟨g1, 0, none⟩) (R2.length + 1) cap1] 34 (0, 0)) := by rw [← hw5]; exact heap_setCell_same _ _ 0 _ _ _ hb4
    have ne2 : b2 ≠ b4 := fun e => by have h := HE3.out.h2; rw [e, HE3.out.h4] at h; cases h
    have ne6 : b6 ≠ b4 := fun e => by have h := HE3.out.h6; rw [e, HE3.out.h4] at h; cases h
    have ne7 : b7 ≠ b4 := fun e => by have h := HE3.out.h7; rw [e, HE3.out.h4] at h; cases h
    have nem : mb ≠ b4 := fun e => by
      obtain ⟨n', D', ⟨es, cl, hm, _⟩, _⟩ := HE3.out.memo
      rw [e, HE3.out.h4] at hm
      cases hm
    have hmr : some mb ≠ v2.ownBlock := by
      obtain ⟨n', D', ⟨es, cl, hm, _⟩, _⟩ := HE3.out.memo
      intro e
      rcases HE3.out.row.2 with ⟨h, _⟩ | ⟨g, cap, cur, h, _, hh, _⟩
      · rw [h] at e; cases e
      · rw [h] at e
        have : mb = g := Option.some.inj e
        rw [this, hh] at hm
        cases hm
    have h35 : ∀ b, b < w3.heap.size → b ≠ b4 → some b ≠ v2.ownBlock → w5.heap[b]? = w3.heap[b]? := fun b hb h1 h2 => (hg45.block b (by have := hgr.size; omega) (fun e => h1 (Option.some.inj e))).trans (hgr.block b hb h2)
    have m5 : SoundH w5 3 mb (cm + wcost d' + wcost d') (MS (idx ++ t1 ++ t2)) MH := HE3.out.memo.same (h35 mb HE3.out.memo.sound.lt nem hmr)
    have hrkl := HE3.out.rk.len
    have hself : En (idx ++ t1 ++ t2 ++ [n]) ((R2.length : Nat) : Int) n := .inr (.inr ⟨R2.length, rfl, by rw [hrkl, List.getElem?_append_right (Nat.le_refl _), Nat.sub_self]; rfl⟩)
    have hms : MS (idx ++ t1 ++ t2 ++ [n]) (.int .i64 (n : Int)) ((R2.length : Nat) : Int) := fun n' _ e => by
      have : (n : Int) = (n' : Int) := by injection e
      obtain rfl : n = n' := by omega
      exact hself
    obtain ⟨w6, hr6, m6, hg56⟩ := SoundH.store (m5.imp (Nat.le_refl _) (ms_ext [n]) (fun _ h => h)) (by omega) law3 Try.underlying61 (key3 (n := n) (by omega)) (Sm.nat (n := R2.length) (by omega)).wf hms
    have h26 : ∀ b, b < w3.heap.size → b ≠ b4 → b ≠ mb → some b ≠ v2.ownBlock → w6.heap[b]? = w3.heap[b]? := fun b hb h1 h2 h3 => (hg56.block b (by have := hgr.size; have := hg45.size; omega) (fun e => h2 (Option.some.inj e))).trans (h35 b hb h1 h3)
    have hW36 : Wf w3 w6 b4 mb v2.ownBlock := ⟨hg56.os.trans (hg45.os.trans hgr.os), hg56.tape.trans (hg45.tape.trans hgr.tape), hg56.output.trans (hg45.output.trans hgr.output), Nat.le_trans hgr.size (Nat.le_trans hg45.size hg56.size), h26⟩
    have own2 : ∀ {b T : Nat} {cs : Array Value}, w3.heap[b]? = some (.cells cs T (0, 0)) → 44 ≠ T → some b ≠ v2.ownBlock := fun h hne => own_ne HE3.out.row h hne
    have nm2 : b2 ≠ mb := fun e => by
      obtain ⟨n', D', ⟨es, cl, hm, _⟩, _⟩ := HE3.out.memo
      rw [← e, HE3.out.h2] at hm; cases hm
    have nm6 : b6 ≠ mb := fun e => by
      obtain ⟨n', D', ⟨es, cl, hm, _⟩, _⟩ := HE3.out.memo
      rw [← e, HE3.out.h6] at hm; cases hm
    have nm7 : b7 ≠ mb := fun e => by
      obtain ⟨n', D', ⟨es, cl, hm, _⟩, _⟩ := HE3.out.memo
      rw [← e, HE3.out.h7] at hm; cases hm
    have hb6 : w6.heap[b4]? = some (.cells #[.slice (some ⟨g1, 0, none⟩) (R2.length + 1) cap1] 34 (0, 0)) := (hg56.block _ (blk_lt' hb5) (fun e => nem (Option.some.inj e).symm)).trans hb5
    have hrow6 : w6.ownsRow B 44 3 (.slice (some ⟨g1, 0, none⟩) (R2.length + 1) cap1) (R2.length + 1) ((R2 ++ [(⟨kn.o, x1, x2⟩ : Kr)]).flatMap rcl) := by
      rw [show (R2 ++ [(⟨kn.o, x1, x2⟩ : Kr)]).flatMap rcl = R2.flatMap rcl ++ [.int .i64 kn.o, .int .i64 x1, .int .i64 x2] from by rw [List.flatMap_append]; rfl]
      have hk : w5.ownsRow B 44 3 (.slice (some ⟨g1, 0, none⟩) (R2.length + 1) cap1) (R2.length + 1) (R2.flatMap rcl ++ [.int .i64 kn.o, .int .i64 x1, .int .i64 x2]) := hown.kept hg45 (.inr (fun e => by
        have e := Option.some.inj e
        exact own_ne hown hb4 (by decide) (by rw [← e]; rfl)))
      refine hk.kept hg56 (.inr (fun e => ?_))
      have e : g1 = mb := Option.some.inj e
      obtain ⟨n', D', ⟨es, cl, hm, _⟩, _⟩ := m5
      rcases hk.2 with ⟨h, _⟩ | ⟨g, cap, cur, h, _, hh, _⟩
      · cases h
      · have : g1 = g := congrArg Addr.block (Option.some.inj (Value.slice.inj h).1)
        rw [← this, e, hm] at hh
        cases hh
    have hfinE : Env w6 F B b2 b4 b6 b7 mb (cm + wcost (d' + 1)) Ks (idx ++ (t1 ++ (t2 ++ [n]))) (R2 ++ [⟨kn.o, x1, x2⟩]) (.slice (some ⟨g1, 0, none⟩) (R2.length + 1) cap1) := by
      have ea : idx ++ (t1 ++ (t2 ++ [n])) = idx ++ t1 ++ t2 ++ [n] := by simp
      rw [ea, HW.out]
      refine { HE3.out with h2 := (h26 _ (blk_lt' HE3.out.h2) ne2 nm2 (own2 HE3.out.h2 (by decide))).trans HE3.out.h2, h4 := hb6, h6 := (h26 _ (blk_lt' HE3.out.h6) ne6 nm6 (own2 HE3.out.h6 (by decide))).trans HE3.out.h6, h7 := (h26 _ (blk_lt' HE3.out.h7) ne7 nm7 (own2 HE3.out.h7 (by decide))).trans HE3.out.h7, memo := m6.imp (by omega) (fun _ _ h => h) (fun _ h => .inl h), row := by rw [List.length_append]; exact hrow6, rk := HE3.out.rk.snoc hn2 HKN.out (HEN1.out.ext t2) HEN2.out }
    have hob : (Value.slice (some ⟨g1, 0, none⟩) (R2.length + 1) cap1).ownBlock = v2.ownBlock ∨ ∃ b, (Value.slice (some ⟨g1, 0, none⟩) (R2.length + 1) cap1).ownBlock = some b ∧ w3.heap.size ≤ b := hat
    have hv12 : v2.ownBlock = v.ownBlock ∨ ∃ b, v2.ownBlock = some b ∧ w.heap.size ≤ b := by
      rcases HV2.out with h | ⟨b, h, hb⟩
      · rw [h]
        rcases HV1.out with h | ⟨b, h, hb⟩
        · exact .inl h
        · exact .inr ⟨b, h, by omega⟩
      · exact .inr ⟨b, h, by omega⟩
    have hv1' : v1.ownBlock = v.ownBlock ∨ ∃ b, v1.ownBlock = some b ∧ w.heap.size ≤ b := by
      rcases HV1.out with h | ⟨b, h, hb⟩
      · exact .inl h
      · exact .inr ⟨b, h, by omega⟩
    have hWall : Wf w w6 b4 mb v.ownBlock := (((Wf.of_below HB1.out b4 mb v.ownBlock).trans HW2.out (.inl rfl)).trans HW3.out hv1').trans hW36 hv12
    have hfin : WPost w F B b2 b4 b6 b7 mb cm (d' + 1) Ks idx R v n (.returned (.int .i64 (R2.length : Nat))) w6 := by
      refine ⟨_, t1 ++ (t2 ++ [n]), _, _, rfl, hfinE, ?_, ?_, hWall, ?_⟩
      · rw [show idx ++ (t1 ++ (t2 ++ [n])) = idx ++ t1 ++ t2 ++ [n] by simp]; exact hself
      · rw [List.length_append, HW.out]; simp; omega
      · rcases hob with h | ⟨b, h, hb⟩
        · rw [h]; exact hv12
        · exact .inr ⟨b, h, by omega⟩
    have wR := wrap_nat R2.length (by omega)
    have HFIN : Hid (WPost w F B b2 b4 b6 b7 mb cm (d' + 1) Ks idx R v n (.returned (.int .i64 (wrap64 (R2.length : Int)))) w6) := by
      rw [wR]; exact Lib.hid hfin
    have HFIN2 := Lib.hid hfin
    have q6 : w5.cell? ⟨b6, 0, none⟩ = some (.map (some mb)) := (blk_cell' ((h35 _ (blk_lt' HE3.out.h6) ne6 (own2 HE3.out.h6 (by decide))).trans HE3.out.h6) 0).trans rfl
    have q4 : w5.cell? ⟨b4, 0, none⟩ = some (.slice (some ⟨g1, 0, none⟩) (R2.length + 1) cap1) := (blk_cell' hb5 0).trans rfl
    have q4' : w6.cell? ⟨b4, 0, none⟩ = some (.slice (some ⟨g1, 0, none⟩) (R2.length + 1) cap1) := (blk_cell' hb6 0).trans rfl
    try rw [hw5]
    clear hw5 hg45 hb5 ne2 ne6 ne7 nem hmr h35 m5 hrkl hself hms m6 hg56 h26 hW36 own2 nm2 nm6 nm7 hb6 hrow6 hfinE hob hv12 hv1' hWall hfin hown hB4 hgr hat hb4 h4c h4y r4 r0 h4z
    go_wp2_with fail
    go_ret
    first | exact HFIN2.out | exact HFIN.out
  · have hen : En idx x n := hS rfl n (by omega) rfl
    have hfin : WPost w F B b2 b4 b6 b7 mb cm d Ks idx R v n (.returned (.int .i64 x)) w := by
      refine ⟨x, [], R, v, rfl, ?_, by rw [List.append_nil]; exact hen, by omega, Wf.refl _ _ _ _, .inl rfl⟩
      rw [List.append_nil]
      exact { hE with memo := hE.memo.imp (by omega) (fun _ _ h => h) (fun _ h => h) }
    have HFIN := Lib.hid hfin
    clear hf hE hS hH hlk hen hfin ih
    go_enter Try.func33, Try.ntmps33
    go_wp2_with fail
    go_ret
    exact HFIN.out
end Go.Proofs.Ytiglkpgoakibaaa
