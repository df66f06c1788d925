/- The variants that a knot allows are listed (list): the walk. Conditions: the forest lies there, the row of variants is owned. -/
import Derived.Test.YtiglkpgoakibaaaClone
namespace Go.Proofs.Ytiglkpgoakibaaa
open Go.RowKit Go.Maps PTopKnots Go.Proofs.YtiglkpgoakibaaaW.PrintWords
set_option linter.unusedVariables false
set_option linter.unusedSimpArgs false

/-- A row of variants that is owned. -/
def LB (w : World) (B : Nat) (v : Value) (xs : List (List Bool)) : Prop :=
  ∃ cells : List Value, w.ownsRow B 40 1 v xs.length cells ∧ ∀ (j : Nat) (x : List Bool), xs[j]? = some x → ∃ u : Value, cells[j]? = some u ∧ BV w B u x
theorem lb_ne {w : World} {B n : Nat} {v : Value} {cells : List Value} (h : w.ownsRow B 40 1 v n cells) {g : Nat} {o : Obj} (hg : w.heap[g]? = some o) (ho : ∀ cs, o ≠ .cells cs 40 (0, 0)) : some g ≠ v.ownBlock := by
  rcases h.2 with ⟨rfl, _⟩ | ⟨g', cap, cur, rfl, _, hh, _⟩
  · simp [Value.ownBlock]
  · intro he
    have : g = g' := by simpa [Value.ownBlock] using he
    subst this
    rw [hg] at hh
    exact ho cur (Option.some.inj hh)
theorem BV.grown {w w' : World} {B B' n : Nat} {u v : Value} {x : List Bool} {cells : List Value} (h : BV w B u x) (hr : w.ownsRow B' 40 1 v n cells) (hg : w.grownBy w' v.ownBlock) : BV w' B u x :=
  h.kept fun g cs hgc => hg.block g (blk_lt' hgc) (lb_ne hr hgc (fun cs' e => by cases e))
theorem LB.below {w w' : World} {B : Nat} {v : Value} {xs : List (List Bool)} (h : LB w B v xs) (hb : Below w.heap.size w w') : LB w' B v xs := by
  obtain ⟨cells, h1, h2⟩ := h
  refine ⟨cells, own_below h1 hb, fun j x hx => ?_⟩
  obtain ⟨u, h3, h4⟩ := h2 j x hx
  exact ⟨u, h3, h4.below hb⟩
theorem LB.form {w : World} {B : Nat} {v : Value} {xs : List (List Bool)} (h : LB w B v xs) : ∃ A c, v = .slice A xs.length c := by
  obtain ⟨cells, h1, _⟩ := h
  rcases Joins.ownsRow_forms h1 with ⟨a, b⟩ | ⟨g, c, a⟩
  · exact ⟨none, 0, by rw [b]; exact a⟩
  · exact ⟨_, _, a⟩
theorem Fo.apart {w : World} {F : Fb} {N c : Nat} {K : List Kn} (hf : Fo w F N K c) {B : Nat} {v : Value} {xs : List (List Bool)} (h : LB w B v xs) : ∀ b, v.ownBlock = some b → Apt F b := by
  obtain ⟨cells, h1, _⟩ := h
  intro b hb
  have k1 := lb_ne h1 hf.box (fun cs e => by cases e)
  obtain ⟨cur, hk⟩ : ∃ cur, w.heap[F.kb]? = some (.cells cur 71 (0, 0)) := by
    rcases hf.row.2 with ⟨e, _⟩ | ⟨g, cap, cur, e, _, hh, _⟩
    · cases e
    · cases e; exact ⟨cur, hh⟩
  have k2 := lb_ne h1 hk (fun cs e => by cases e)
  obtain ⟨n3, D3, ⟨es, cl, hm3, _⟩, _⟩ := hf.kn
  have k3 := lb_ne h1 hm3 (fun cs e => by cases e)
  obtain ⟨n4, D4, ⟨es4, cl4, hm4, _⟩, _⟩ := hf.jo
  have k4 := lb_ne h1 hm4 (fun cs e => by cases e)
  rw [hb] at k1 k2 k3 k4
  exact ⟨fun e => k1 (by rw [e]), fun e => k2 (by rw [e]), fun e => k3 (by rw [e]), fun e => k4 (by rw [e])⟩
theorem LB.snoc {w w' : World} {B : Nat} {v v' u : Value} {xs : List (List Bool)} {x : List Bool} {cells : List Value} (h1 : w.ownsRow B 40 1 v xs.length cells) (h2 : ∀ (j : Nat) (x : List Bool), xs[j]? = some x → ∃ u : Value, cells[j]? = some u ∧ BV w B u x)
    (hu : BV w B u x) (hr : w'.ownsRow B 40 1 v' (xs.length + 1) (cells ++ [u])) (hg : w.grownBy w' v.ownBlock) : LB w' B v' (xs ++ [x]) := by
  have hcl : cells.length = xs.length := by have := h1.1; omega
  refine ⟨cells ++ [u], by rw [List.length_append]; exact hr, fun j y hy => ?_⟩
  rcases Nat.lt_or_ge j xs.length with hj | hj
  · rw [List.getElem?_append_left hj] at hy
    obtain ⟨u', h3, h4⟩ := h2 j y hy
    exact ⟨u', by rw [List.getElem?_append_left (by omega)]; exact h3, h4.grown h1 hg⟩
  · have hjl := (List.getElem?_eq_some_iff.1 hy).1
    rw [List.length_append] at hjl
    simp only [List.length_cons, List.length_nil] at hjl
    obtain rfl : j = xs.length := by omega
    rw [List.getElem?_append_right (Nat.le_refl _), Nat.sub_self] at hy
    cases hy
    exact ⟨u, by rw [← hcl, List.getElem?_append_right (Nat.le_refl _), Nat.sub_self]; rfl, hu.grown h1 hg⟩
def LPost (w : World) (B : Nat) (v : Value) (ys : List (List Bool)) (e : Ending) (w' : World) : Prop :=
  ∃ v', e = .returned v' ∧ LB w' B v' ys ∧ w.grownBy w' v.ownBlock ∧ (v'.ownBlock = v.ownBlock ∨ ∃ b, v'.ownBlock = some b ∧ w.heap.size ≤ b)
theorem info40 : (Try.prog.info? 40).map (fun i => (i.zero, i.size, i.bytes)) = some (some (.slice none 0 0), 1, 24) := by kernel_rfl
def ListOk (N lim m : Nat) : Prop := ∀ (w : World) (F : Fb) (Ks : List Kn) (c n B : Nat) (p : List Bool) (vp v : Value) (acc : List (List Bool)), Fo w F N Ks c → n < Ks.length → p.length + m = N → BV w B vp p → B ≤ w.heap.size → LB w B v acc → acc.length ≤ lim →
  Calls Try.prog 22 #[.pointer (some ⟨F.p, 0, none⟩), .int .i64 n, vp, .int .i64 lim, v] w (LPost w B v ((acc ++ sat Ks N m n p).take lim))
theorem take_le {acc : List (List Bool)} {lim : Nat} (h : acc.length ≤ lim) : acc.take lim = acc := List.take_of_length_le h

set_option maxRecDepth 100000 in
theorem list_done {w : World} {F : Fb} {N lim m n B : Nat} {Ks : List Kn} {p : List Bool} {vp v : Value} {acc : List (List Bool)} (hv : LB w B v acc) (hl : acc.length ≤ lim) (h : n = 0 ∨ acc.length = lim) :
    Calls Try.prog 22 #[.pointer (some ⟨F.p, 0, none⟩), .int .i64 n, vp, .int .i64 lim, v] w (LPost w B v ((acc ++ sat Ks N m n p).take lim)) := by
  have hys : (acc ++ sat Ks N m n p).take lim = acc := by
    rcases h with rfl | h
    · rw [sat_0, List.append_nil, take_le hl]
    · rw [List.take_append_of_le_length (by omega), take_le hl]
  rw [hys]
  have HF : Hid (LPost w B v acc (.returned v) w) := ⟨v, rfl, hv, World.grownBy.refl _ _, .inl rfl⟩
  obtain ⟨A, c', rfl⟩ := hv.form
  clear hys hv
  rcases h with rfl | h
  · go_enter Try.func22, Try.ntmps22
    go_wp2_with fail
    go_ret
    exact HF.out
  · by_cases h0 : n = 0
    · subst h0
      go_enter Try.func22, Try.ntmps22
      go_wp2_with fail
      go_ret
      exact HF.out
    · have h0' : (((n : Nat) : Int) == 0) = false := by simp [h0]
      obtain ⟨L, hL⟩ : ∃ L, acc.length = L := ⟨_, rfl⟩
      rw [hL] at h HF ⊢
      subst h
      clear hl hL h0
      go_enter Try.func22, Try.ntmps22
      go_wp2_with fail
      go_ret
      exact HF.out
theorem grown_of_below {w w' : World} (h : Below w.heap.size w w') (r : Option Nat) : w.grownBy w' r := ⟨h.os, h.tape, h.output, h.size, fun k hk _ => h.block k hk⟩
theorem BV.form {w : World} {B : Nat} {v : Value} {x : List Bool} (h : BV w B v x) : ∃ A c, v = .slice A x.length c := by
  rcases h with ⟨h1, h2⟩ | ⟨g, c, cs, h1, _⟩
  · exact ⟨none, 0, by rw [h2]; exact h1⟩
  · exact ⟨_, _, h1⟩
theorem slice_one (u : Value) (A : Option Addr) (l c : Nat) (h : u = .slice A l c) : ∀ x ∈ [u], x.oneCell' = true := fun x hx => by
  simp only [List.mem_cons, List.not_mem_nil, or_false] at hx
  subst hx
  rw [h]
  rfl
set_option maxRecDepth 100000 in
theorem list_leaf {w : World} {F : Fb} {N lim c n B : Nat} {Ks : List Kn} {p : List Bool} {vp v : Value} {acc : List (List Bool)} (hf : Fo w F N Ks c) (hN : N ≤ 1000) (hp : p.length = N) (hvp : BV w B vp p) (hB : B ≤ w.heap.size) (hv : LB w B v acc) (hl : acc.length < lim) (hlim : lim ≤ 1000) (h0 : n ≠ 0) :
    Calls Try.prog 22 #[.pointer (some ⟨F.p, 0, none⟩), .int .i64 n, vp, .int .i64 lim, v] w (LPost w B v ((acc ++ sat Ks N 0 n p).take lim)) := by
  have hys : (acc ++ sat Ks N 0 n p).take lim = acc ++ [p] := by
    rw [sat, if_neg h0]
    exact List.take_of_length_le (by simp; omega)
  rw [hys]
  have h0' : (((n : Nat) : Int) == 0) = false := by simp [h0]
  obtain ⟨A, c', rfl⟩ := hv.form
  obtain ⟨Ap, cp, rfl⟩ := hvp.form
  have hcl := clone_any hvp (by omega)
  have hvo := hv
  obtain ⟨cells, r1, r2⟩ := hv
  have q0 : w.cell? ⟨F.p, 0, none⟩ = some (.int .i64 N) := (blk_cell' hf.box 0).trans rfl
  have hlb : (((acc.length : Nat) : Int) == (lim : Int)) = false := by simp; omega
  have HCL := Lib.hid hcl
  have HF := Lib.hid hf
  have R1 := Lib.hid r1
  have R2 := Lib.hid r2
  have HV := Lib.hid hvo
  obtain ⟨L, hL⟩ : ∃ L, acc.length = L := ⟨_, rfl⟩
  have HL := Lib.hid hL
  have HP := Lib.hid hp
  rw [hL] at hl hlb ⊢
  rw [hp] at HCL ⊢
  clear hys hcl hf r1 r2 hvo hp hL h0 hvp
  go_enter Try.func22, Try.ntmps22
  go_wp2_with fail
  refine HCL.out.mono ?_
  rintro e w1 ⟨u, rfl, hB1, hown⟩
  have hbv : BV w1 w.heap.size u p := bv_own hown
  obtain ⟨Au, cu, hu⟩ := hbv.form
  rw [HP.out] at hu
  subst hu
  have HB1 := Lib.hid hB1
  have HBV := Lib.hid (hbv.low hB)
  have HU := Lib.hid (slice_one (.slice Au N cu) _ _ _ rfl)
  have HO : Hid (w1.ownsRow B 40 1 (.slice A L c') L cells) := by
    have := own_below R1.out hB1
    rw [HL.out] at this
    exact Lib.hid this
  have HLB := Lib.hid (HV.out.below hB1)
  have hzB : B ≤ w1.heap.size := Nat.le_trans hB hB1.size
  clear hbv hown hB1
  go_wp2_with (at_builtin; refine print_append_cells (w0 := w1) (W := w1) B rfl _ _ 37 40 _ 1 24 rfl Try.underlying37 info40 rfl (by decide) (by decide) (.slice A L c') L cells [.slice Au N cu] rfl rfl rfl HU.out HO.out (Below.refl _ _) hzB (by omega) ?_; intro v1 w2 hown hB2 hgr hat)
  go_ret
  have hob := ob A acc.length L c'
  refine ⟨v1, rfl, ?_, ?_, ?_⟩
  · refine LB.snoc (w := w1) (v := .slice A acc.length c') (cells := cells) (u := .slice Au N cu) (by rw [HL.out]; exact HO.out) (fun j x hx => ?_) HBV.out (by rw [HL.out]; exact hown) (by rw [hob]; exact hgr)
    obtain ⟨u', h3, h4⟩ := R2.out j x hx
    exact ⟨u', h3, h4.below HB1.out⟩
  · exact (grown_of_below HB1.out _).trans hgr
  · rcases hat with h | ⟨b, h, hb⟩
    · exact .inl h
    · exact .inr ⟨b, h, Nat.le_trans HB1.out.size hb⟩
theorem grown_chain {w0 wa w3 w4 : World} {r r' : Option Nat} (h : w0.grownBy wa r) (hb : Below wa.heap.size wa w3) (hg : w3.grownBy w4 r') (hr : r' = r ∨ ∃ b, r' = some b ∧ w0.heap.size ≤ b) : w0.grownBy w4 r where
  os := hg.os.trans (hb.os.trans h.os)
  tape := hg.tape.trans (hb.tape.trans h.tape)
  output := hg.output.trans (hb.output.trans h.output)
  size := Nat.le_trans h.size (Nat.le_trans hb.size hg.size)
  block := fun k hk hne => by
    have z1 := h.size
    have z2 := hb.size
    refine (hg.block k (by omega) (fun e => ?_)).trans ((hb.block k (by omega)).trans (h.block k hk hne))
    rcases hr with e' | ⟨b, e', hb'⟩
    · exact hne (e.trans e')
    · have := Option.some.inj (e.trans e')
      omega
/-- What one way on adds. -/
def ss (Ks : List Kn) (N m n : Nat) (p : List Bool) (b : Bool) : List (List Bool) := sat Ks N m (br Ks n (N - (m + 1)) b) (p ++ [b])
def pt (Ks : List Kn) (N m n : Nat) (p : List Bool) : Nat → List (List Bool)
  | 0 => []
  | 1 => ss Ks N m n p false
  | _ => ss Ks N m n p false ++ ss Ks N m n p true
theorem take_take_app (a b : List (List Bool)) (l : Nat) : (a.take l ++ b).take l = (a ++ b).take l := by
  rcases Nat.le_total a.length l with h | h
  · rw [List.take_of_length_le h]
  · rw [List.take_append_of_le_length (by rw [List.length_take]; omega), List.take_take, Nat.min_self, List.take_append_of_le_length h]
theorem pt_next (Ks : List Kn) (N m n : Nat) (p : List Bool) (k : Nat) (h : k < 2) : pt Ks N m n p (k + 1) = pt Ks N m n p k ++ ss Ks N m n p (decide (k = 1)) := by
  rcases (show k = 0 ∨ k = 1 by omega) with rfl | rfl <;> rfl
set_option maxRecDepth 100000 in
set_option maxHeartbeats 2000000 in
theorem list_node {N lim m : Nat} (hN : N ≤ 1000) (hlim : lim ≤ 1000) (ih : ListOk N lim m) {w : World} {F : Fb} {c n B : Nat} {Ks : List Kn} {p : List Bool} {vp v : Value} {acc : List (List Bool)} (hf : Fo w F N Ks c) (hn : n < Ks.length) (hp : p.length + (m + 1) = N) (hvp : BV w B vp p) (hB : B ≤ w.heap.size) (hv : LB w B v acc) (hl : acc.length < lim) (h0 : n ≠ 0) :
    Calls Try.prog 22 #[.pointer (some ⟨F.p, 0, none⟩), .int .i64 n, vp, .int .i64 lim, v] w (LPost w B v ((acc ++ sat Ks N (m + 1) n p).take lim)) := by
  have hys : sat Ks N (m + 1) n p = pt Ks N m n p 2 := by
    rw [sat, if_neg h0]
    rfl
  rw [hys]
  have h0' : (((n : Nat) : Int) == 0) = false := by simp [h0]
  obtain ⟨A, c', hve⟩ := hv.form
  obtain ⟨Ap, cp, rfl⟩ := hvp.form
  obtain ⟨M, hM⟩ : ∃ M, p.length = M := ⟨_, rfl⟩
  obtain ⟨L, hL⟩ : ∃ L, acc.length = L := ⟨_, rfl⟩
  have hMo : N - (m + 1) = M := by omega
  have hMN : M < N := by omega
  have q0 : w.cell? ⟨F.p, 0, none⟩ = some (.int .i64 N) := (blk_cell' hf.box 0).trans rfl
  have hlb : ((L : Int) == (lim : Int)) = false := by simp; omega
  have hpb : ((M : Int) == (N : Int)) = false := by simp; omega
  obtain ⟨w0, hw0⟩ : ∃ w0, w.alloc (.cells #[.bool false, .bool true] 4) = w0 := ⟨_, rfl⟩
  have hB0 : Below w.heap.size w w0 := by rw [← hw0]; exact (Below.refl _ _).alloc (Nat.le_refl _) _
  have k0 : w0.heap[w.heap.size]? = some (.cells #[.bool false, .bool true] 4 (0, 0)) := by rw [← hw0]; exact allocNew _ _ _ rfl
  have HF0 := Lib.hid (hf.below hB0)
  have HV0 := Lib.hid (hv.below hB0)
  have HP0 := Lib.hid (hvp.below hB0)
  have HK0 := Lib.hid k0
  have HB0 := Lib.hid hB0
  have HW0 := Lib.hid hw0
  have HLIM := Lib.hid hl
  have HVL : Hid (∀ b, v.ownBlock = some b → b < w.heap.size) := fun b hb => by
    obtain ⟨cells, r1, _⟩ := hv
    exact (World.ownsRow.lt r1 b hb).2
  have HPL : Hid (M + (m + 1) = N) := by rw [← hM]; exact Lib.hid hp
  have HM := Lib.hid hM
  have HMO := Lib.hid hMo
  have HL := Lib.hid hL
  have HVE := Lib.hid hve
  rw [hL] at hl
  rw [hM] at HP0 ⊢
  have HFIN : Hid (∀ v' w', LB w' B v' ((acc ++ pt Ks N m n p 2).take lim) → w0.grownBy w' v.ownBlock → (v'.ownBlock = v.ownBlock ∨ ∃ b, v'.ownBlock = some b ∧ w0.heap.size ≤ b) → LPost w B v ((acc ++ pt Ks N m n p 2).take lim) (.returned v') w') := fun v' w' a1 a2 a3 => by
    refine ⟨v', rfl, a1, (grown_of_below HB0.out _).trans a2, ?_⟩
    rcases a3 with h | ⟨b, h, hb⟩
    · exact .inl h
    · exact .inr ⟨b, h, Nat.le_trans HB0.out.size hb⟩
  rw [show v = .slice A L c' by rw [hve, hL]]
  rw [hL] at hve
  rw [hve] at HFIN HVL
  have HV0' : Hid (LB w0 B (.slice A L c') acc) := by rw [← hve]; exact HV0
  clear hys hf hvp hv hp h0 hM hL hB0 k0 hw0 hve hMo HV0 HVE HLIM
  go_enter Try.func22, Try.ntmps22
  go_wp2_with fail
  rw [HW0.out]
  go_loopw [4, 36] (fun t i wr => ∃ (k : Nat), k ≤ 2 ∧ i = .int .i64 k ∧ Hid (LB wr B t ((acc ++ pt Ks N m n p k).take lim)) ∧ Hid (w0.grownBy wr (Value.slice A L c').ownBlock) ∧ Hid (t.ownBlock = (Value.slice A L c').ownBlock ∨ ∃ b, t.ownBlock = some b ∧ w0.heap.size ≤ b)) (fun _ i _ => 2 - (intOf i).toNat)
  case atStart =>
    refine ⟨0, by omega, rfl, Lib.hid ?_, World.grownBy.refl _ _, Lib.hid (.inl rfl)⟩
    rw [pt, List.append_nil, List.take_of_length_le (by rw [HL.out]; omega)]
    exact HV0'.out
  case round =>
    obtain ⟨k, hk, rfl, HLB, HG, HO⟩ := hrel
    obtain ⟨wa, rfl⟩ : ∃ wa : World, wa = wr := ⟨_, rfl⟩
    by_cases hlt : k < 2
    · obtain ⟨b, hb⟩ : ∃ b, decide (k = 1) = b := ⟨_, rfl⟩
      have hnx : pt Ks N m n p (k + 1) = pt Ks N m n p k ++ ss Ks N m n p b := by rw [pt_next _ _ _ _ _ _ hlt, hb]
      obtain ⟨acc2, hacc⟩ : ∃ acc2, (acc ++ pt Ks N m n p k).take lim = acc2 := ⟨_, rfl⟩
      have hacl : acc2.length ≤ lim := by rw [← hacc, List.length_take]; exact Nat.min_le_left _ _
      obtain ⟨r, hr⟩ : ∃ r, br Ks n M b = r := ⟨_, rfl⟩
      have hrl : r < Ks.length := by rw [← hr]; exact br_lt HF0.out.wf hn hMN _
      have hss : ss Ks N m n p b = sat Ks N m r (p ++ [b]) := by unfold ss; rw [HMO.out, hr]
      have hres : (acc2 ++ sat Ks N m r (p ++ [b])).take lim = (acc ++ pt Ks N m n p (k + 1)).take lim := by
        rw [← hacc, take_take_app, List.append_assoc, hnx, hss]
      rw [hacc] at HLB
      have HRES := Lib.hid hres
      have hg2 : w.heap.size < w0.heap.size := blk_lt' HK0.out
      have hne2 : some w.heap.size ≠ (Value.slice A L c').ownBlock := fun e => by have := HVL.out _ e.symm; omega
      have ka : wa.heap[w.heap.size]? = some (.cells #[.bool false, .bool true] 4 (0, 0)) := (HG.out.block _ hg2 hne2).trans HK0.out
      have q2 : wa.cell? ⟨w.heap.size, k, none⟩ = some (.bool b) := by
        rw [blk_cell' ka, ← hb]
        rcases (show k = 0 ∨ k = 1 by omega) with rfl | rfl <;> rfl
      have HFa : Hid (Fo wa F N Ks c) := Lib.hid (HF0.out.grown HG.out (HF0.out.apart HV0'.out))
      have HPa : Hid (BV wa B (.slice Ap M cp) p) := by
        obtain ⟨cells, r1, _⟩ := HV0'.out
        exact Lib.hid (HP0.out.grown r1 HG.out)
      have HJ1 : Hid (Calls Try.prog 35 #[.pointer (some ⟨F.p, 0, none⟩), .int .i64 n, .int .i64 M, .bool b] wa fun e w' => e = .returned (.int .i64 r) ∧ Below wa.heap.size wa w') := by
        have h := branch_any HFa.out hn M b
        rw [hr] at h
        exact Lib.hid h
      have hza : B ≤ wa.heap.size := by have := HB0.out.size; have := HG.out.size; omega
      obtain ⟨At, ct, hte⟩ := HLB.out.form
      have HTE := Lib.hid hte
      clear hb hnx hacc hr hss hres hne2 ka hte
      go_wp2_with fail
      refine HJ1.out.mono ?_
      rintro e w1 ⟨rfl, hB1⟩
      have HB1 := Lib.hid hB1
      have HCL := Lib.hid (clone_any (HPa.out.below hB1) (by rw [HM.out]; omega))
      clear hB1 HJ1
      go_wp2_with fail
      refine HCL.out.mono ?_
      rintro e w2 ⟨u, rfl, hB2, hown⟩
      obtain ⟨Au, cu, hu⟩ := (bv_own hown).form
      rw [HM.out] at hu hown
      subst hu
      have HB2 := Lib.hid hB2
      have HOW := Lib.hid hown
      have hz2 := hB2.size
      clear hB2 hown HCL
      go_wp2_with (at_builtin; refine print_append_cells (w0 := w1) (W := w2) w1.heap.size rfl _ _ 40 4 _ 1 1 rfl Try.underlying40 info4 rfl (by decide) (by decide) (.slice Au M cu) M (p.map Value.bool) [.bool b] rfl rfl rfl (bools_one [b]) HOW.out HB2.out hz2 (by omega) ?_; intro v3 w3 hown hB3 hgr hat)
      have hBa3 : Below wa.heap.size wa w3 := HB1.out.trans (hB3.mono HB1.out.size)
      have hbv : BV w3 B v3 (p ++ [b]) := (bv_own (B := w1.heap.size) (n := M + 1) (by rw [List.map_append]; exact hown)).low (Nat.le_trans hza HB1.out.size)
      have hcall := ih w3 F Ks c r B (p ++ [b]) v3 u4 acc2 (HFa.out.below hBa3) hrl (by rw [List.length_append, HM.out]; have := HPL.out; simp; omega) hbv (by have := hBa3.size; omega) (HLB.out.below hBa3) hacl
      rw [HRES.out] at hcall
      have HCALL := Lib.hid hcall
      have HBA3 := Lib.hid hBa3
      clear hcall hbv hBa3 hown hB3 hgr hat q2 q0
      go_wp2_with fail
      refine HCALL.out.mono ?_
      rintro e w4 ⟨v4, rfl, hLB4, hG4, hO4⟩
      have HG4 : Hid (w0.grownBy w4 (Value.slice A L c').ownBlock) := Lib.hid (grown_chain HG.out HBA3.out hG4 HO.out)
      have HO4 : Hid (v4.ownBlock = (Value.slice A L c').ownBlock ∨ ∃ b, v4.ownBlock = some b ∧ w0.heap.size ≤ b) := by
        rcases hO4 with h | ⟨b, h, hb⟩
        · rw [h]; exact HO
        · exact Lib.hid (.inr ⟨b, h, by have := HG.out.size; have := HBA3.out.size; omega⟩)
      have HLB4 := Lib.hid hLB4
      clear hLB4 hG4 hO4
      go_wp2_with fail
      exact ⟨⟨k + 1, by omega, by simp, HLB4, HG4, HO4⟩, by simp [intOf]; omega⟩
    · obtain rfl : k = 2 := by omega
      have HFF := Lib.hid (HFIN.out _ _ HLB.out HG.out HO.out)
      clear hk
      go_wp2_with fail
      go_ret
      exact HFF.out
theorem list_any {N lim : Nat} (hN : N ≤ 1000) (hlim : lim ≤ 1000) : ∀ m, ListOk N lim m := by
  intro m
  induction m with
  | zero =>
    intro w F Ks c n B p vp v acc hf hn hp hvp hB hv hl
    by_cases h : n = 0 ∨ acc.length = lim
    · exact list_done hv hl h
    · exact list_leaf hf hN hp hvp hB hv (by omega) hlim (by omega)
  | succ m ih =>
    intro w F Ks c n B p vp v acc hf hn hp hvp hB hv hl
    by_cases h : n = 0 ∨ acc.length = lim
    · exact list_done hv hl h
    · exact list_node hN hlim ih hf hn hp hvp hB hv (by omega) (by omega)
end Go.Proofs.Ytiglkpgoakibaaa
