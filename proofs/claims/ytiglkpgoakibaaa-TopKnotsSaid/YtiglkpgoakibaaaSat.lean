/- The variants of a knot by what it says alone; the way that takes no option as long as it can. Plain lists. No condition beyond those named. -/
import Derived.Test.YtiglkpgoakibaaaSem
namespace Go.Proofs.Ytiglkpgoakibaaa
set_option linter.unusedVariables false
set_option linter.unusedSimpArgs false

/-- All ways on from a beginning, in order. -/
def allv : Nat → List Bool → List (List Bool)
  | 0, p => [p]
  | m + 1, p => allv m (p ++ [false]) ++ allv m (p ++ [true])
theorem allv_mem : ∀ (m : Nat) (p x : List Bool), x ∈ allv m p → x.length = p.length + m ∧ x.take p.length = p := by
  intro m
  induction m with
  | zero => intro p x hx; simp [allv] at hx; subst hx; simp
  | succ m ih =>
    intro p x hx
    rw [allv, List.mem_append] at hx
    have key : ∀ b : Bool, x ∈ allv m (p ++ [b]) → x.length = p.length + (m + 1) ∧ x.take p.length = p := fun b h => by
      obtain ⟨h1, h2⟩ := ih _ _ h
      rw [List.length_append, List.length_singleton] at h1 h2
      refine ⟨by omega, ?_⟩
      have h3 := congrArg (List.take p.length) h2
      rw [List.take_take, Nat.min_eq_left (by omega), List.take_append_of_le_length (Nat.le_refl _), List.take_of_length_le (Nat.le_refl _)] at h3
      exact h3
    rcases hx with h | h
    · exact key _ h
    · exact key _ h
theorem allv_at {m : Nat} {p x : List Bool} {b : Bool} (h : x ∈ allv m (p ++ [b])) : vf x p.length = b := by
  obtain ⟨h1, h2⟩ := allv_mem _ _ _ h
  unfold vf
  rw [List.getD_eq_getElem?_getD]
  have h3 : x[p.length]? = (x.take (p ++ [b]).length)[p.length]? := by rw [List.getElem?_take_of_lt (by simp)]
  rw [h3, h2]
  simp
theorem sat_all {N : Nat} {K : List Kn} (hw : WF N K) : ∀ m n p, m ≤ N → n < K.length → N - m ≤ lv K n → p.length = N - m → sat K N m n p = (allv m p).filter fun x => ev K n (vf x) := by
  intro m
  induction m with
  | zero =>
    intro n p _ hn hl _
    have h1 := hw.lv_le hn
    obtain ⟨k, hk⟩ := hw.get hn
    have h2 : n < 2 := by
      rcases Nat.lt_or_ge n 2 with h | h
      · exact h
      · have := (hw.kn n k h hk).1
        rw [lv_of hk] at hl
        omega
    have : n = 0 ∨ n = 1 := by omega
    rcases this with rfl | rfl
    · simp [sat, allv, ev_0]
    · simp [sat, allv, ev_1]
  | succ m ih =>
    intro n p hm hn hl hp
    by_cases h0 : n = 0
    · subst h0
      rw [sat_0]
      simp [ev_0]
    · have ho : N - (m + 1) < N := by omega
      rw [sat, if_neg h0, allv, List.filter_append, ih _ _ (by omega) (br_lt hw hn ho _) (by have := br_lv hw hn ho hl false; omega) (by simp; omega), ih _ _ (by omega) (br_lt hw hn ho _) (by have := br_lv hw hn ho hl true; omega) (by simp; omega)]
      congr 1
      · refine List.filter_congr fun x hx => ?_
        rw [br_ev hw hn ho hl (b := false) (by rw [← hp]; exact allv_at hx)]
      · refine List.filter_congr fun x hx => ?_
        rw [br_ev hw hn ho hl (b := true) (by rw [← hp]; exact allv_at hx)]
/-- What a knot says is all that its variants rest on. -/
theorem sat_sem {N : Nat} {K : List Kn} (hw : WF N K) {n : Nat} (hn : n < K.length) {Q : (Nat → Bool) → Bool} (h : ∀ v, ev K n v = Q v) : sat K N N n [] = (allv N []).filter fun x => Q (vf x) := by
  rw [sat_all hw N n [] (Nat.le_refl _) hn (by omega) (by simp)]
  exact List.filter_congr fun x _ => h _
theorem cnt_sem {N : Nat} {K : List Kn} (hw : WF N K) {n : Nat} (hn : n < K.length) {Q : (Nat → Bool) → Bool} (h : ∀ v, ev K n v = Q v) : wy K n * 2 ^ (lv K n) = ((allv N []).filter fun x => Q (vf x)).length := by
  rw [← sat_sem hw hn h, sat_len hw N n [] (Nat.le_refl _) hn (by omega)]
  congr 2
  omega
theorem no_sem {N : Nat} {K : List Kn} (hw : WF N K) {n : Nat} (hn : n < K.length) {Q : (Nat → Bool) → Bool} (h : ∀ v, ev K n v = Q v) : n = 0 ↔ ((allv N []).filter fun x => Q (vf x)).length = 0 := by
  rw [← cnt_sem hw hn h]
  constructor
  · rintro rfl
    rw [wy_0, Nat.zero_mul]
  · intro h0
    rcases Nat.eq_zero_or_pos n with e | e
    · exact e
    · have h1 := wy_pos hw n hn (by omega)
      have h2 := Nat.mul_pos h1 (Nat.pow_pos (n := lv K n) (show 0 < 2 by omega))
      omega
theorem fst_sem {N : Nat} {K : List Kn} (hw : WF N K) {n : Nat} (hn : n < K.length) (h0 : n ≠ 0) {Q : (Nat → Bool) → Bool} (h : ∀ v, ev K n v = Q v) : ((allv N []).filter fun x => Q (vf x)).head? = some (fst K N N n []) := by
  rw [← sat_sem hw hn h]
  exact sat_head hw N n [] (Nat.le_refl _) hn (by omega) h0
/-- Options that are not asked for are not taken. -/
theorem fst_skip {K : List Kn} {N n : Nat} (h0 : n ≠ 0) : ∀ d m p, m + d ≤ N → N - m ≤ lv K n → fst K N (m + d) n p = fst K N m n (p ++ List.replicate d false) := by
  intro d
  induction d with
  | zero => intro m p _ _; simp
  | succ d ih =>
    intro m p hm hl
    have e : ∀ b, br K n (N - (m + d + 1)) b = n := fun b => br_same (by omega) b
    have hb : (n == 0) = false := by simpa using h0
    rw [← Nat.add_assoc, fst, e, e, hb, ih m _ (by omega) hl, List.append_assoc]
    rfl
/-- One knot on. -/
theorem fst_knot {N : Nat} {K : List Kn} (hw : WF N K) {n : Nat} {k : Kn} (h2 : 2 ≤ n) (hk : K[n]? = some k) (p : List Bool) :
    ∃ n', n' = (if k.l = 0 then k.h else k.l) ∧ n' ≠ 0 ∧ fst K N (N - lv K n) n p = fst K N (N - lv K n') n' (p ++ [decide (k.l = 0)] ++ List.replicate (lv K n' - (k.o + 1)) false) := by
  obtain ⟨h1, h3, h4, h5, h6, h7⟩ := hw.kn n k h2 hk
  have hlt := (List.getElem?_eq_some_iff.1 hk).1
  refine ⟨_, rfl, ?_, ?_⟩
  · split <;> omega
  · rw [lv_of hk]
    obtain ⟨m, hm⟩ : ∃ m, N - k.o = m + 1 := ⟨N - k.o - 1, by omega⟩
    have e1 : N - (m + 1) = k.o := by omega
    rw [hm, fst, e1, br_at hk, br_at hk]
    by_cases hl : k.l = 0
    · have hn' : k.h ≠ 0 := fun e => h5 (hl.trans e.symm)
      have := hw.lv_le (n := k.h) (by omega)
      simp only [Bool.false_eq_true, if_false, hl, beq_self_eq_true, if_true, decide_true]
      rw [show m = (N - lv K k.h) + (lv K k.h - (k.o + 1)) by omega]
      exact fst_skip hn' _ _ _ (by omega) (by omega)
    · have hb : (k.l == 0) = false := by simpa using hl
      have hd : decide (k.l = 0) = false := decide_eq_false hl
      have := hw.lv_le (n := k.l) (by omega)
      simp only [Bool.false_eq_true, if_false, hl, hb, hd]
      rw [show m = (N - lv K k.l) + (lv K k.l - (k.o + 1)) by omega]
      exact fst_skip hl _ _ _ (by omega) (by omega)
theorem fst_root {N : Nat} {K : List Kn} (hw : WF N K) {n : Nat} (hn : n < K.length) (h0 : n ≠ 0) : fst K N N n [] = fst K N (N - lv K n) n (List.replicate (lv K n) false) := by
  have h := hw.lv_le hn
  have := fst_skip (K := K) (N := N) h0 (lv K n) (N - lv K n) [] (by omega) (by omega)
  rw [Nat.sub_add_cancel h, List.nil_append] at this
  exact this
end Go.Proofs.Ytiglkpgoakibaaa
