/- Decision diagrams in a list of knots: what they say, their levels, branches, counts and ways. Plain lists. No condition beyond those named. -/
import Derived.Lib.Hide
namespace Go.Proofs.Ytiglkpgoakibaaa
set_option linter.unusedVariables false
set_option linter.unusedSimpArgs false

/-- A knot: the option that is asked, and where to go without it and with it. Number 0 is no, number 1 is yes. -/
structure Kn where
  o : Nat
  l : Nat
  h : Nat
theorem Kn.ext' {a b : Kn} (h1 : a.o = b.o) (h2 : a.l = b.l) (h3 : a.h = b.h) : a = b := by
  cases a; cases b; simp_all

def lv (K : List Kn) (n : Nat) : Nat := match K[n]? with | some k => k.o | none => 0
theorem lv_of {K : List Kn} {n : Nat} {k : Kn} (h : K[n]? = some k) : lv K n = k.o := by unfold lv; rw [h]

structure WF (N : Nat) (K : List Kn) : Prop where
  k0 : K[0]? = some ⟨N, 0, 0⟩
  k1 : K[1]? = some ⟨N, 0, 0⟩
  kn : ∀ i k, 2 ≤ i → K[i]? = some k → k.o < N ∧ k.l < i ∧ k.h < i ∧ k.l ≠ k.h ∧ k.o < lv K k.l ∧ k.o < lv K k.h
theorem WF.two {N : Nat} {K : List Kn} (h : WF N K) : 2 ≤ K.length := (List.getElem?_eq_some_iff.1 h.k1).1
theorem WF.lv0 {N : Nat} {K : List Kn} (h : WF N K) : lv K 0 = N := lv_of h.k0
theorem WF.lv1 {N : Nat} {K : List Kn} (h : WF N K) : lv K 1 = N := lv_of h.k1
theorem WF.get {N : Nat} {K : List Kn} (_h : WF N K) {n : Nat} (hn : n < K.length) : ∃ k, K[n]? = some k := ⟨_, List.getElem?_eq_getElem hn⟩
theorem WF.lv_le {N : Nat} {K : List Kn} (h : WF N K) {n : Nat} (hn : n < K.length) : lv K n ≤ N := by
  obtain ⟨k, hk⟩ := h.get hn
  rw [lv_of hk]
  match n with
  | 0 => rw [h.k0] at hk; cases hk; exact Nat.le_refl _
  | 1 => rw [h.k1] at hk; cases hk; exact Nat.le_refl _
  | n + 2 => exact Nat.le_of_lt (h.kn _ k (by omega) hk).1
theorem WF.two_of {N : Nat} {K : List Kn} (h : WF N K) {n : Nat} {k : Kn} (hk : K[n]? = some k) (ho : k.o < N) : 2 ≤ n := by
  match n with
  | 0 => rw [h.k0] at hk; cases hk; exact absurd ho (Nat.lt_irrefl _)
  | 1 => rw [h.k1] at hk; cases hk; exact absurd ho (Nat.lt_irrefl _)
  | n + 2 => omega

/-- What a knot says of a variant. -/
def ev (K : List Kn) (n : Nat) (v : Nat → Bool) : Bool :=
  if n < 2 then n == 1 else match K[n]? with
  | none => false
  | some k => if _h : k.l < n ∧ k.h < n then (if v k.o then ev K k.h v else ev K k.l v) else false
termination_by n
theorem ev_0 (K : List Kn) (v : Nat → Bool) : ev K 0 v = false := by unfold ev; rfl
theorem ev_1 (K : List Kn) (v : Nat → Bool) : ev K 1 v = true := by unfold ev; rfl
theorem ev_k {N : Nat} {K : List Kn} (h : WF N K) {n : Nat} {k : Kn} (h2 : 2 ≤ n) (hk : K[n]? = some k) (v : Nat → Bool) : ev K n v = if v k.o then ev K k.h v else ev K k.l v := by
  obtain ⟨_, h3, h4, _⟩ := h.kn n k h2 hk
  rw [ev, if_neg (by omega), hk]
  dsimp only
  rw [dif_pos ⟨h3, h4⟩]

def Ext (K K' : List Kn) : Prop := ∃ t, K' = K ++ t
theorem Ext.refl (K : List Kn) : Ext K K := ⟨[], by simp⟩
theorem Ext.trans {A B C : List Kn} (h : Ext A B) (k : Ext B C) : Ext A C := by
  obtain ⟨s, rfl⟩ := h
  obtain ⟨t, rfl⟩ := k
  exact ⟨s ++ t, by rw [List.append_assoc]⟩
theorem Ext.len {K K' : List Kn} (h : Ext K K') : K.length ≤ K'.length := by
  obtain ⟨t, rfl⟩ := h
  simp
theorem Ext.get {K K' : List Kn} (h : Ext K K') {n : Nat} (hn : n < K.length) : K'[n]? = K[n]? := by
  obtain ⟨t, rfl⟩ := h
  rw [List.getElem?_append_left hn]
theorem Ext.lv {K K' : List Kn} (h : Ext K K') {n : Nat} (hn : n < K.length) : lv K' n = lv K n := by
  unfold Ytiglkpgoakibaaa.lv
  rw [h.get hn]
theorem ev_ext {N : Nat} {K K' : List Kn} (hw : WF N K) (hw' : WF N K') (he : Ext K K') (v : Nat → Bool) : ∀ n, n < K.length → ev K' n v = ev K n v := by
  intro n
  induction n using Nat.strongRecOn with
  | ind n ih =>
    intro hn
    by_cases h2 : n < 2
    · have : n = 0 ∨ n = 1 := by omega
      rcases this with rfl | rfl
      · rw [ev_0, ev_0]
      · rw [ev_1, ev_1]
    · obtain ⟨k, hk⟩ := hw.get hn
      obtain ⟨_, h3, h4, _⟩ := hw.kn n k (by omega) hk
      rw [ev_k hw (by omega) hk, ev_k hw' (by omega) ((he.get hn).trans hk), ih k.l h3 (by omega), ih k.h h4 (by omega)]
theorem WF.snoc {N : Nat} {K : List Kn} (hw : WF N K) {k : Kn} (h1 : k.o < N) (h2 : k.l < K.length) (h3 : k.h < K.length) (h4 : k.l ≠ k.h) (h5 : k.o < lv K k.l) (h6 : k.o < lv K k.h) : WF N (K ++ [k]) := by
  have he : Ext K (K ++ [k]) := ⟨[k], rfl⟩
  have h0 := hw.two
  refine ⟨(he.get (by omega)).trans hw.k0, (he.get (by omega)).trans hw.k1, fun i x hi hx => ?_⟩
  rcases Nat.lt_or_ge i K.length with hl | hl
  · rw [he.get hl] at hx
    obtain ⟨a1, a2, a3, a4, a5, a6⟩ := hw.kn i x hi hx
    exact ⟨a1, a2, a3, a4, by rw [he.lv (by omega)]; exact a5, by rw [he.lv (by omega)]; exact a6⟩
  · have hi2 := (List.getElem?_eq_some_iff.1 hx).1
    simp at hi2
    obtain rfl : i = K.length := by omega
    simp at hx
    subst hx
    exact ⟨h1, h2, h3, h4, by rw [he.lv h2]; exact h5, by rw [he.lv h3]; exact h6⟩

/-- What a knot says rests on the options from its own on. -/
theorem ev_dep {N : Nat} {K : List Kn} (hw : WF N K) {v v' : Nat → Bool} : ∀ n, n < K.length → (∀ i, lv K n ≤ i → i < N → v i = v' i) → ev K n v = ev K n v' := by
  intro n
  induction n using Nat.strongRecOn with
  | ind n ih =>
    intro hn h
    by_cases h2 : n < 2
    · have : n = 0 ∨ n = 1 := by omega
      rcases this with rfl | rfl
      · rw [ev_0, ev_0]
      · rw [ev_1, ev_1]
    · obtain ⟨k, hk⟩ := hw.get hn
      obtain ⟨h0, h3, h4, _, h5, h6⟩ := hw.kn n k (by omega) hk
      rw [lv_of hk] at h
      rw [ev_k hw (by omega) hk, ev_k hw (by omega) hk, h k.o (Nat.le_refl _) h0, ih k.l h3 (by omega) (fun i hi hN => h i (by omega) hN), ih k.h h4 (by omega) (fun i hi hN => h i (by omega) hN)]

/-! ### branches -/
def br (K : List Kn) (n o : Nat) (b : Bool) : Nat := match K[n]? with | some k => if k.o = o then (if b then k.h else k.l) else n | none => n
section
variable {N : Nat} {K : List Kn} (hw : WF N K) {n o : Nat} (hn : n < K.length) (ho : o < N) (hl : o ≤ lv K n)
include hw hn ho
theorem br_lt (b : Bool) : br K n o b < K.length := by
  obtain ⟨k, hk⟩ := hw.get hn
  unfold br
  rw [hk]
  dsimp only
  by_cases he : k.o = o
  · have h2 := hw.two_of hk (by omega)
    obtain ⟨_, h3, h4, _⟩ := hw.kn n k h2 hk
    rw [if_pos he]
    cases b
    · exact Nat.lt_trans h3 hn
    · exact Nat.lt_trans h4 hn
  · rw [if_neg he]; exact hn
include hl
theorem br_lv (b : Bool) : o < lv K (br K n o b) := by
  obtain ⟨k, hk⟩ := hw.get hn
  unfold br
  rw [hk]
  dsimp only
  by_cases he : k.o = o
  · have h2 := hw.two_of hk (by omega)
    obtain ⟨_, _, _, _, h5, h6⟩ := hw.kn n k h2 hk
    rw [if_pos he]
    subst he
    cases b
    · exact h5
    · exact h6
  · rw [if_neg he]
    rw [lv_of hk] at hl ⊢
    omega
theorem br_ev {b : Bool} {v : Nat → Bool} (hv : v o = b) : ev K (br K n o b) v = ev K n v := by
  have _h := hl
  obtain ⟨k, hk⟩ := hw.get hn
  unfold br
  rw [hk]
  dsimp only
  by_cases he : k.o = o
  · have h2 := hw.two_of hk (by omega)
    rw [if_pos he, ev_k hw h2 hk, he, hv]
    cases b <;> rfl
  · rw [if_neg he]
end
theorem br_same {K : List Kn} {n o : Nat} (h : o ≠ lv K n) (b : Bool) : br K n o b = n := by
  unfold br
  cases hk : K[n]? with
  | none => rfl
  | some k =>
    dsimp only
    rw [if_neg (fun e => h (by rw [lv_of hk, e]))]
theorem br_at {K : List Kn} {n : Nat} {k : Kn} (hk : K[n]? = some k) (b : Bool) : br K n k.o b = if b then k.h else k.l := by
  unfold br
  rw [hk]
  dsimp only
  rw [if_pos rfl]
theorem br_ext {K K' : List Kn} (he : Ext K K') {n : Nat} (hn : n < K.length) (o : Nat) (b : Bool) : br K' n o b = br K n o b := by
  unfold br
  rw [he.get hn]

/-! ### the ways to yes -/
/-- The ways from a knot's own option on. -/
def wy (K : List Kn) (n : Nat) : Nat :=
  if n < 2 then n else match K[n]? with
  | none => 0
  | some k => if _h : k.l < n ∧ k.h < n then wy K k.l * 2 ^ (lv K k.l - (k.o + 1)) + wy K k.h * 2 ^ (lv K k.h - (k.o + 1)) else 0
termination_by n
theorem wy_0 (K : List Kn) : wy K 0 = 0 := by unfold wy; rfl
theorem wy_1 (K : List Kn) : wy K 1 = 1 := by unfold wy; rfl
theorem wy_k {N : Nat} {K : List Kn} (h : WF N K) {n : Nat} {k : Kn} (h2 : 2 ≤ n) (hk : K[n]? = some k) : wy K n = wy K k.l * 2 ^ (lv K k.l - (k.o + 1)) + wy K k.h * 2 ^ (lv K k.h - (k.o + 1)) := by
  obtain ⟨_, h3, h4, _⟩ := h.kn n k h2 hk
  rw [wy, if_neg (by omega), hk]
  dsimp only
  rw [dif_pos ⟨h3, h4⟩]
theorem wy_le {N : Nat} {K : List Kn} (hw : WF N K) : ∀ n, n < K.length → wy K n ≤ 2 ^ (N - lv K n) := by
  intro n
  induction n using Nat.strongRecOn with
  | ind n ih =>
    intro hn
    by_cases h2 : n < 2
    · have : n = 0 ∨ n = 1 := by omega
      rcases this with rfl | rfl
      · rw [wy_0]; exact Nat.zero_le _
      · rw [wy_1]; exact Nat.pow_pos (by omega)
    · obtain ⟨k, hk⟩ := hw.get hn
      obtain ⟨h0, h3, h4, _, h5, h6⟩ := hw.kn n k (by omega) hk
      rw [wy_k hw (by omega) hk, lv_of hk]
      have a1 := ih k.l h3 (by omega)
      have a2 := ih k.h h4 (by omega)
      have b1 := hw.lv_le (n := k.l) (by omega)
      have b2 := hw.lv_le (n := k.h) (by omega)
      have c1 : 2 ^ (N - lv K k.l) * 2 ^ (lv K k.l - (k.o + 1)) = 2 ^ (N - (k.o + 1)) := by rw [← Nat.pow_add]; congr 1; omega
      have c2 : 2 ^ (N - lv K k.h) * 2 ^ (lv K k.h - (k.o + 1)) = 2 ^ (N - (k.o + 1)) := by rw [← Nat.pow_add]; congr 1; omega
      have c3 : 2 ^ (N - k.o) = 2 ^ (N - (k.o + 1)) + 2 ^ (N - (k.o + 1)) := by
        rw [show N - k.o = (N - (k.o + 1)) + 1 by omega, Nat.pow_succ]; omega
      have d1 := Nat.mul_le_mul_right (2 ^ (lv K k.l - (k.o + 1))) a1
      have d2 := Nat.mul_le_mul_right (2 ^ (lv K k.h - (k.o + 1))) a2
      omega
theorem wy_pos {N : Nat} {K : List Kn} (hw : WF N K) : ∀ n, n < K.length → n ≠ 0 → 0 < wy K n := by
  intro n
  induction n using Nat.strongRecOn with
  | ind n ih =>
    intro hn h0
    by_cases h2 : n < 2
    · obtain rfl : n = 1 := by omega
      rw [wy_1]; omega
    · obtain ⟨k, hk⟩ := hw.get hn
      obtain ⟨_, h3, h4, h5, _⟩ := hw.kn n k (by omega) hk
      rw [wy_k hw (by omega) hk]
      by_cases hl : k.l = 0
      · have := Nat.mul_pos (ih k.h h4 (by omega) (by omega)) (Nat.pow_pos (n := lv K k.h - (k.o + 1)) (show 0 < 2 by omega))
        omega
      · have := Nat.mul_pos (ih k.l h3 (by omega) hl) (Nat.pow_pos (n := lv K k.l - (k.o + 1)) (show 0 < 2 by omega))
        omega

/-! ### the variants that a knot allows, in order -/
/-- The ways on from option o: N - o options are left (m). -/
def sat (K : List Kn) (N : Nat) : Nat → Nat → List Bool → List (List Bool)
  | 0, n, p => if n = 0 then [] else [p]
  | m + 1, n, p => if n = 0 then [] else sat K N m (br K n (N - (m + 1)) false) (p ++ [false]) ++ sat K N m (br K n (N - (m + 1)) true) (p ++ [true])
theorem sat_0 (K : List Kn) (N m : Nat) (p : List Bool) : sat K N m 0 p = [] := by
  cases m <;> simp [sat]
theorem sat_len {N : Nat} {K : List Kn} (hw : WF N K) : ∀ m n p, m ≤ N → n < K.length → N - m ≤ lv K n → (sat K N m n p).length = wy K n * 2 ^ (lv K n - (N - m)) := by
  intro m
  induction m with
  | zero =>
    intro n p _ hn hl
    have h1 := hw.lv_le hn
    obtain ⟨k, hk⟩ := hw.get hn
    have h2 : n < 2 := by
      rcases Nat.lt_or_ge n 2 with h | h
      · exact h
      · have := (hw.kn n k h hk).1
        rw [lv_of hk] at hl
        omega
    have : n = 0 ∨ n = 1 := by omega
    rcases this with rfl | rfl
    · simp [sat, wy_0]
    · simp [sat, wy_1, hw.lv1]
  | succ m ih =>
    intro n p hm hn hl
    by_cases h0 : n = 0
    · subst h0
      simp [sat, wy_0]
    · have ho : N - (m + 1) < N := by omega
      rw [sat, if_neg h0, List.length_append, ih _ _ (by omega) (br_lt hw hn ho _) (by have := br_lv hw hn ho hl false; omega), ih _ _ (by omega) (br_lt hw hn ho _) (by have := br_lv hw hn ho hl true; omega)]
      by_cases he : N - (m + 1) = lv K n
      · obtain ⟨k, hk⟩ := hw.get hn
        have hko : k.o = N - (m + 1) := by rw [he, lv_of hk]
        have h2 := hw.two_of hk (by omega)
        rw [← hko, br_at hk, br_at hk, wy_k hw h2 hk, lv_of hk]
        have e1 : N - m = k.o + 1 := by omega
        simp only [Bool.false_eq_true, if_false, if_true, e1]
        rw [Nat.sub_self, Nat.pow_zero, Nat.mul_one]
      · rw [br_same he, br_same he]
        have e2 : lv K n - (N - (m + 1)) = (lv K n - (N - m)) + 1 := by omega
        rw [e2, Nat.pow_succ, ← Nat.mul_assoc]
        omega
/-- A variant as a map. -/
def vf (l : List Bool) (i : Nat) : Bool := l.getD i false
theorem sat_mem {N : Nat} {K : List Kn} (hw : WF N K) : ∀ m n p x, m ≤ N → n < K.length → N - m ≤ lv K n → p.length = N - m → (x ∈ sat K N m n p ↔ x.length = N ∧ x.take (N - m) = p ∧ ev K n (vf x) = true) := by
  intro m
  induction m with
  | zero =>
    intro n p x _ hn hl hp
    have h1 := hw.lv_le hn
    obtain ⟨k, hk⟩ := hw.get hn
    have h2 : n < 2 := by
      rcases Nat.lt_or_ge n 2 with h | h
      · exact h
      · have := (hw.kn n k h hk).1
        rw [lv_of hk] at hl
        omega
    have : n = 0 ∨ n = 1 := by omega
    rcases this with rfl | rfl
    · simp [sat, ev_0]
    · simp only [sat, ev_1, Nat.sub_zero, and_true]
      rw [if_neg (by omega), List.mem_singleton]
      constructor
      · rintro rfl
        exact ⟨by omega, List.take_of_length_le (by omega)⟩
      · rintro ⟨h3, h4⟩
        rw [List.take_of_length_le (by omega)] at h4
        exact h4
  | succ m ih =>
    intro n p x hm hn hl hp
    by_cases h0 : n = 0
    · subst h0
      simp [sat, ev_0]
    · have ho : N - (m + 1) < N := by omega
      have e1 : N - m = N - (m + 1) + 1 := by omega
      rw [sat, if_neg h0, List.mem_append, ih _ _ _ (by omega) (br_lt hw hn ho _) (by have := br_lv hw hn ho hl false; omega) (by simp; omega), ih _ _ _ (by omega) (br_lt hw hn ho _) (by have := br_lv hw hn ho hl true; omega) (by simp; omega), e1]
      have key : ∀ b : Bool, x.length = N → (x.take (N - (m + 1) + 1) = p ++ [b] ↔ x.take (N - (m + 1)) = p ∧ vf x (N - (m + 1)) = b) := fun b hx => by
        rw [List.take_add_one, List.getElem?_eq_getElem (by omega), Option.toList_some]
        unfold vf
        rw [List.getD_eq_getElem?_getD, List.getElem?_eq_getElem (by omega), Option.getD_some]
        constructor
        · intro h
          have := List.append_inj' h rfl
          exact ⟨this.1, by simpa using this.2⟩
        · rintro ⟨h1, h2⟩
          rw [h1, h2]
      constructor
      · rintro (⟨h1, h2, h3⟩ | ⟨h1, h2, h3⟩)
        · obtain ⟨h4, h5⟩ := (key false h1).1 h2
          exact ⟨h1, h4, by rw [← br_ev hw hn ho hl h5]; exact h3⟩
        · obtain ⟨h4, h5⟩ := (key true h1).1 h2
          exact ⟨h1, h4, by rw [← br_ev hw hn ho hl h5]; exact h3⟩
      · rintro ⟨h1, h2, h3⟩
        cases hb : vf x (N - (m + 1))
        · exact .inl ⟨h1, (key false h1).2 ⟨h2, hb⟩, by rw [br_ev hw hn ho hl hb]; exact h3⟩
        · exact .inr ⟨h1, (key true h1).2 ⟨h2, hb⟩, by rw [br_ev hw hn ho hl hb]; exact h3⟩
/-- The first variant, option by option. -/
def fst (K : List Kn) (N : Nat) : Nat → Nat → List Bool → List Bool
  | 0, _, p => p
  | m + 1, n, p => fst K N m (br K n (N - (m + 1)) (br K n (N - (m + 1)) false == 0)) (p ++ [br K n (N - (m + 1)) false == 0])
theorem fst_len (K : List Kn) (N : Nat) : ∀ m n p, (fst K N m n p).length = p.length + m := by
  intro m
  induction m with
  | zero => intro n p; rfl
  | succ m ih => intro n p; rw [fst, ih]; simp; omega
theorem sat_head {N : Nat} {K : List Kn} (hw : WF N K) : ∀ m n p, m ≤ N → n < K.length → N - m ≤ lv K n → n ≠ 0 → (sat K N m n p).head? = some (fst K N m n p) := by
  intro m
  induction m with
  | zero =>
    intro n p _ hn hl h0
    simp [sat, fst, h0]
  | succ m ih =>
    intro n p hm hn hl h0
    have ho : N - (m + 1) < N := by omega
    have l1 := br_lv hw hn ho hl false
    have l2 := br_lv hw hn ho hl true
    rw [sat, if_neg h0, fst]
    by_cases hf : br K n (N - (m + 1)) false = 0
    · have ht : br K n (N - (m + 1)) true ≠ 0 := fun ht => by
        by_cases he : N - (m + 1) = lv K n
        · obtain ⟨k, hk⟩ := hw.get hn
          have hko : k.o = N - (m + 1) := by rw [he, lv_of hk]
          have h2 := hw.two_of hk (by omega)
          rw [← hko, br_at hk] at hf ht
          simp only [Bool.false_eq_true, if_false, if_true] at hf ht
          exact (hw.kn n k h2 hk).2.2.2.1 (hf.trans ht.symm)
        · rw [br_same he] at hf
          exact h0 hf
      have hb : (br K n (N - (m + 1)) false == 0) = true := by simpa using hf
      rw [hb, hf, sat_0, List.nil_append]
      exact ih _ _ (by omega) (br_lt hw hn ho _) (by omega) ht
    · have hb : (br K n (N - (m + 1)) false == 0) = false := by simpa using hf
      rw [hb]
      have h3 := ih (br K n (N - (m + 1)) false) (p ++ [false]) (by omega) (br_lt hw hn ho _) (by omega) hf
      cases hs : sat K N m (br K n (N - (m + 1)) false) (p ++ [false]) with
      | nil => rw [hs] at h3; simp at h3
      | cons a t => rw [hs] at h3; simpa using h3
end Go.Proofs.Ytiglkpgoakibaaa
