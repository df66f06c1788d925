/- Names: what the reference takes for a name, the program does; plain law over the printed functions. No condition beyond those named. What the reference takes for a valid formula or model is valid: plain law over the printed functions. No condition beyond those named. A valid formula is found valid (valid): the walk. Condition: the formula is valid and is read. Valid formulas are found valid (checkFormulas and what it calls): the walks. Condition: the formulas are valid and are read. A good model is found valid (CheckModel, check): the walks. Condition: the names and rules are good and are read. The rules of a good model are grown (begin): the walk. Condition: the model and the formulas are good and are read. -/
import Derived.Test.YtiglkpgoakibaaaPTopKnotsx4
import Derived.Test.YtiglkpgoakibaaaForm
import Derived.Test.YtiglkpgoakibaaaAll
import Derived.Test.YtiglkpgoakibaaaNew
namespace Go.Proofs.Ytiglkpgoakibaaa
open Go.RowKit PTopKnots Go.Proofs.YtiglkpgoakibaaaW.PrintWords
set_option linter.unusedVariables false

def okC (a : ByteArray) (j : Nat) : Prop := (97 ≤ bt a j ∧ bt a j ≤ 122) ∨ (j ≠ 0 ∧ 48 ≤ bt a j ∧ bt a j ≤ 57)
structure Gn (a : ByteArray) : Prop where
  one : 1 ≤ a.size
  eight : a.size ≤ 8
  yes : a.toList ≠ [121, 101, 115]
  no : a.toList ≠ [110, 111]
  ok : ∀ j, j < a.size → okC a j
theorem wr_s (i : Nat) (h : i ≤ 100000) : wrap64 ((i : Int) + 1) = ((i + 1 : Nat) : Int) := by unfold wrap64; omega
theorem name_l0 (a : ByteArray) (hs : a.size ≤ 8) : ∀ d i, a.size = i + d → ∃ r, (∀ k, d + 1 ≤ k → ignitionref01_Name.l0 k a (i : Int) = some r) ∧ (r = true → ∀ j, i ≤ j → j < a.size → okC a j) := by
  intro d
  induction d with
  | zero =>
    intro i hi
    refine ⟨true, fun k hk => ?_, fun _ j h1 h2 => by omega⟩
    obtain ⟨k, rfl⟩ : ∃ k', k = k' + 1 := ⟨k - 1, by omega⟩
    rw [ignitionref01_Name.l0, if_neg (by omega)]
  | succ d ih =>
    intro i hi
    obtain ⟨r, h1, h2⟩ := ih (i + 1) (by omega)
    have hw := wr_s i (by omega)
    have go : ∀ k, d + 1 + 1 ≤ k → ∀ s, s = ignitionref01_Name.l0 k a (i : Int) → okC a i ∧ s = some r ∨ ¬ okC a i ∧ s = some false := fun k hk s hs => by
      obtain ⟨k, rfl⟩ : ∃ k', k = k' + 1 := ⟨k - 1, by omega⟩
      rw [ignitionref01_Name.l0, hw, h1 k (by omega), if_pos (by omega), if_pos (by omega)] at hs
      rw [hs]
      unfold okC
      repeat' split
      all_goals first
        | exact .inl ⟨by omega, rfl⟩
        | exact .inr ⟨by omega, rfl⟩
    by_cases hok : okC a i
    · refine ⟨r, fun k hk => ?_, fun hr j hj hj2 => ?_⟩
      · rcases go k hk _ rfl with h | h
        · exact h.2
        · exact absurd hok h.1
      · rcases Nat.eq_or_lt_of_le hj with rfl | hj
        · exact hok
        · exact h2 hr j hj hj2
    · refine ⟨false, fun k hk => ?_, fun hr => by cases hr⟩
      rcases go k hk _ rfl with h | h
      · exact absurd h.1 hok
      · exact h.2
theorem name_f (a : ByteArray) : ∃ r, (∀ k, 10 ≤ k → ignitionref01_Name.f k a = some r) ∧ (r = true → Gn a) := by
  have hj : ∀ k, 10 ≤ k → ignitionref01_Name.j0 k a true = some false := fun k hk => by
    obtain ⟨k, rfl⟩ : ∃ k', k = k' + 1 := ⟨k - 1, by omega⟩
    rw [ignitionref01_Name.j0, if_pos rfl]
  by_cases h1 : (a.size : Int) < 1
  · exact ⟨false, fun k hk => by unfold ignitionref01_Name.f; rw [if_pos h1]; exact hj k hk, fun h => by cases h⟩
  by_cases h8 : (a.size : Int) > 8
  · exact ⟨false, fun k hk => by unfold ignitionref01_Name.f; rw [if_neg h1, if_pos h8]; exact hj k hk, fun h => by cases h⟩
  by_cases hy : a.toList = [121, 101, 115]
  · exact ⟨false, fun k hk => by unfold ignitionref01_Name.f; rw [if_neg h1, if_neg h8, if_pos hy]; exact hj k hk, fun h => by cases h⟩
  by_cases hn : a.toList = [110, 111]
  · exact ⟨false, fun k hk => by unfold ignitionref01_Name.f; rw [if_neg h1, if_neg h8, if_neg hy, hn]; exact hj k hk, fun h => by cases h⟩
  obtain ⟨r, h2, h3⟩ := name_l0 a (by omega) a.size 0 (by omega)
  refine ⟨r, fun k hk => ?_, fun hr => ⟨by omega, by omega, hy, hn, fun j hj => h3 hr j (Nat.zero_le _) hj⟩⟩
  have hb : (a.toList == ([110, 111] : List UInt8)) = false := by simpa using hn
  unfold ignitionref01_Name.f
  rw [if_neg h1, if_neg h8, if_neg hy, hb]
  obtain ⟨k, rfl⟩ : ∃ k', k = k' + 1 := ⟨k - 1, by omega⟩
  rw [ignitionref01_Name.j0, if_neg (by decide)]
  exact h2 k (by omega)

/-! ### the program's own look at a name -/
theorem word_l0 (a : ByteArray) (hs : a.size ≤ 8) (hok : ∀ j, j < a.size → okC a j) : ∀ d i, a.size = i + d → ∀ k, d + 1 ≤ k → options_word.l0 k a (a.size : Int) (i : Int) = some (a.size : Int) := by
  intro d
  induction d with
  | zero =>
    intro i hi k hk
    obtain ⟨k, rfl⟩ : ∃ k', k = k' + 1 := ⟨k - 1, by omega⟩
    rw [options_word.l0, if_neg (by omega)]
  | succ d ih =>
    intro i hi k hk
    obtain ⟨k, rfl⟩ : ∃ k', k = k' + 1 := ⟨k - 1, by omega⟩
    have h := hok i (by omega)
    unfold okC at h
    rw [options_word.l0, wr_s i (by omega), ih (i + 1) (by omega) k (by omega), if_pos (by omega), if_pos (by omega), if_pos (by omega)]
    repeat' split
    all_goals first
      | rfl
      | (exfalso; omega)
theorem named_f {a : ByteArray} (h : Gn a) : options_named.f 20 a = some true := by
  have h0 := h.ok 0 h.one
  have h1 := h.one
  have h8 := h.eight
  unfold okC at h0
  have hw : options_word.f 20 a = some (a.size : Int) := word_l0 a h8 h.ok a.size 0 (by omega) 20 (by omega)
  have c : (0 : Nat) = ((0 : Nat) : Int).toNat := rfl
  have z : bt a ((0 : Nat) : Int) = bt a 0 := rfl
  rw [z] at h0
  unfold options_named.f
  rw [if_neg (by omega), if_neg (by omega), if_pos (by omega), if_neg (by omega), if_neg (by omega), if_neg h.yes, if_neg h.no, hw]
  simp

/-! ### contains -/
theorem rdOf_at {xs : List ByteArray} {i : Nat} {x : ByteArray} (h : xs[i]? = some x) : rdOf ByteArray.empty xs (i : Int) = x := by
  unfold rdOf
  rw [Int.toNat_natCast, List.getD_eq_getElem?_getD, h]
  rfl
theorem index_l0 (xs : List ByteArray) (x : ByteArray) (hl : xs.length ≤ 100) (hne : ∀ y ∈ xs, x.toList ≠ y.toList) : ∀ d i, xs.length = i + d → ∀ k, d + 1 ≤ k → slices_Index_string_string.l0 k xs x (xs.length : Int) (i : Int) = some (-1) := by
  intro d
  induction d with
  | zero =>
    intro i hi k hk
    obtain ⟨k, rfl⟩ : ∃ k', k = k' + 1 := ⟨k - 1, by omega⟩
    rw [slices_Index_string_string.l0, if_neg (by omega)]
  | succ d ih =>
    intro i hi k hk
    obtain ⟨k, rfl⟩ : ∃ k', k = k' + 1 := ⟨k - 1, by omega⟩
    obtain ⟨y, hy⟩ : ∃ y, xs[i]? = some y := ⟨_, List.getElem?_eq_getElem (by omega)⟩
    rw [slices_Index_string_string.l0, wr_s i (by omega), ih (i + 1) (by omega) k (by omega), if_pos (by omega), if_pos (by omega), if_pos (by omega), rdOf_at hy, if_neg (hne y (List.mem_of_getElem? hy))]
theorem contains_f (xs : List ByteArray) (x : ByteArray) (hl : xs.length ≤ 100) (hne : ∀ y ∈ xs, x.toList ≠ y.toList) : slices_Contains_string_string.f 200 xs x = some false := by
  unfold slices_Contains_string_string.f slices_Index_string_string.f
  have h0 := index_l0 xs x hl hne xs.length 0 (by omega) 200 (by omega)
  rw [Int.natCast_zero] at h0
  rw [h0]
  rfl
end Go.Proofs.Ytiglkpgoakibaaa
namespace Go.Proofs.Ytiglkpgoakibaaa
open Go.RowKit PTopKnots Go.Proofs.YtiglkpgoakibaaaW.PrintWords
set_option linter.unusedVariables false

theorem rd_at {xs : List Int} {i : Nat} {x : Int} (h : xs[i]? = some x) : rd xs (i : Int) = x := by
  unfold rd
  rw [Int.toNat_natCast, List.getD_eq_getElem?_getD, h]
  rfl
theorem wr_d (n : Nat) (h : 1 ≤ n) (h2 : n ≤ 100000) : wrap64 ((n : Int) - 1) = ((n - 1 : Nat) : Int) := by unfold wrap64; omega
theorem end_l0 (f : List Int) (N : Nat) (hl : f.length ≤ 100) : ∀ d i n, f.length = i + d → n ≤ 1 + i → ∃ r : Int, (∀ k, 4 * d + 3 ≤ k → ignitionref01_end.l0 k f (i : Int) (N : Int) (n : Int) = some r) ∧ (r = (f.length : Int) → wnt n (f.drop i) = some 0 ∧ ∀ x ∈ f.drop i, -6 ≤ x ∧ x < (N : Int)) := by
  intro d
  induction d with
  | zero =>
    intro i n hi hn
    refine ⟨if (n : Int) > 0 then -1 else (i : Int), fun k hk => ?_, fun hr => ?_⟩
    · obtain ⟨k, rfl⟩ : ∃ k', k = k' + 1 + 1 := ⟨k - 2, by omega⟩
      rw [ignitionref01_end.l0, if_neg (by omega), ignitionref01_end.j1, if_neg (by decide)]
      split <;> rfl
    · rw [List.drop_of_length_le (by omega)]
      refine ⟨?_, fun x hx => by simp at hx⟩
      rw [wnt]
      by_cases h0 : (n : Int) > 0
      · rw [if_pos h0] at hr; omega
      · rw [show n = 0 by omega]
  | succ d ih =>
    intro i n hi hn
    obtain ⟨x, hx⟩ : ∃ x, f[i]? = some x := ⟨_, List.getElem?_eq_getElem (by omega)⟩
    rw [drop_at hx]
    by_cases h0 : n = 0
    · subst h0
      refine ⟨(i : Int), fun k hk => ?_, fun hr => by omega⟩
      obtain ⟨k, rfl⟩ : ∃ k', k = k' + 1 + 1 := ⟨k - 2, by omega⟩
      have hd : decide (((0 : Nat) : Int) > 0) = false := by decide
      rw [ignitionref01_end.l0, if_pos (by omega), hd, ignitionref01_end.j1, if_neg (by decide), if_neg (by decide)]
    · have hd : decide ((n : Int) > 0) = true := decide_eq_true (by omega)
      have hrd := rd_at hx
      have start : ∀ k, ignitionref01_end.l0 (k + 1 + 1) f (i : Int) (N : Int) (n : Int) = if x ≥ (N : Int) then ignitionref01_end.j2 k f i N n true else ignitionref01_end.j2 k f i N n (decide (x < -6)) := fun k => by
        rw [ignitionref01_end.l0, if_pos (by omega), hd, ignitionref01_end.j1, if_pos rfl, if_pos (by omega), if_pos (by omega), hrd]
      by_cases hbad : x ≥ (N : Int) ∨ x < -6
      · refine ⟨-1, fun k hk => ?_, fun hr => by omega⟩
        obtain ⟨k, rfl⟩ : ∃ k', k = k' + 1 + 1 + 1 := ⟨k - 3, by omega⟩
        rw [start]
        have j : ignitionref01_end.j2 (k + 1) f i N n true = some (-1) := by rw [ignitionref01_end.j2, if_pos rfl]
        split
        · exact j
        · rw [decide_eq_true (by omega)]; exact j
      · have hxr : -6 ≤ x ∧ x < (N : Int) := by omega
        have hgo : ∀ k, ignitionref01_end.l0 (k + 1 + 1 + 1) f (i : Int) (N : Int) (n : Int) = if x ≥ 0 then ignitionref01_end.j3 k f i N n true else if x = -1 then ignitionref01_end.j3 k f i N n true else ignitionref01_end.j3 k f i N n (x == -2) := fun k => by
          rw [start, if_neg (by omega), decide_eq_false (by omega), ignitionref01_end.j2, if_neg (by decide), if_pos (by omega), if_pos (by omega), hrd]
        have fin : ∀ n' : Nat, n + opn x - 1 = n' → n' ≤ 1 + (i + 1) → (∀ k, ignitionref01_end.l0 (k + 1 + 1 + 1 + 1) f (i : Int) (N : Int) (n : Int) = ignitionref01_end.l0 k f ((i + 1 : Nat) : Int) (N : Int) (n' : Int)) → ∃ r : Int, (∀ k, 4 * (d + 1) + 3 ≤ k → ignitionref01_end.l0 k f (i : Int) (N : Int) (n : Int) = some r) ∧ (r = (f.length : Int) → wnt n (x :: f.drop (i + 1)) = some 0 ∧ ∀ y ∈ x :: f.drop (i + 1), -6 ≤ y ∧ y < (N : Int)) := fun n' hn' hn1 hstep => by
          obtain ⟨r, h1, h2⟩ := ih (i + 1) n' (by omega) hn1
          refine ⟨r, fun k hk => ?_, fun hr => ?_⟩
          · obtain ⟨k, rfl⟩ : ∃ k', k = k' + 1 + 1 + 1 + 1 := ⟨k - 4, by omega⟩
            rw [hstep]
            exact h1 k (by omega)
          · obtain ⟨h3, h4⟩ := h2 hr
            refine ⟨by rw [wnt, if_neg h0, hn']; exact h3, fun y hy => ?_⟩
            rcases List.mem_cons.1 hy with rfl | hy
            · exact hxr
            · exact h4 y hy
        have hi1 := wr_s i (by omega)
        have hn1 := wr_s n (by omega)
        have hnd := wr_d n (by omega) (by omega)
        have hj3 : ∀ k, ignitionref01_end.j3 (k + 1) f i N n true = ignitionref01_end.l0 k f ((i + 1 : Nat) : Int) (N : Int) ((n - 1 : Nat) : Int) := fun k => by rw [ignitionref01_end.j3, if_pos rfl, hi1, hnd]
        by_cases hx0 : x ≥ 0 ∨ x = -1 ∨ x = -2
        · have ho : opn x = 0 := by unfold opn; split <;> (try split) <;> omega
          refine fin (n - 1) (by omega) (by omega) fun k => ?_
          rw [hgo]
          split
          · exact hj3 k
          · split
            · exact hj3 k
            · have : (x == -2) = true := by simp; omega
              rw [this]
              exact hj3 k
        · have hx2 : (x == -2) = false := by simp; omega
          by_cases hx3 : x = -3
          · subst hx3
            have ho : opn (-3) = 1 := rfl
            refine fin n (by omega) (by omega) fun k => ?_
            rw [hgo, if_neg (by omega), if_neg (by omega), hx2, ignitionref01_end.j3, if_neg (by decide), if_pos (by omega), if_pos (by omega), hrd, if_pos rfl, hi1]
          · have ho : opn x = 2 := by unfold opn; split <;> (try split) <;> omega
            refine fin (n + 1) (by omega) (by omega) fun k => ?_
            rw [hgo, if_neg (by omega), if_neg (by omega), hx2, ignitionref01_end.j3, if_neg (by decide), if_pos (by omega), if_pos (by omega), hrd, if_neg hx3, hi1, hn1]
theorem valid_f (f : List Int) (N : Nat) : ∃ r, (∀ k, 403 ≤ k → ignitionref01_Valid.f k f (N : Int) = some r) ∧ (r = true → Vd N f) := by
  unfold ignitionref01_Valid.f
  by_cases h1 : (f.length : Int) ≤ 100
  · by_cases h2 : (f.length : Int) > 0
    · obtain ⟨r, h3, h4⟩ := end_l0 f N (by omega) f.length 0 1 (by omega) (by omega)
      refine ⟨r == (f.length : Int), fun k hk => ?_, fun hr => ?_⟩
      · have := h3 k (by omega)
        unfold ignitionref01_end.f
        rw [if_pos h1, if_pos h2]
        rw [Int.natCast_zero] at this
        rw [show ((1 : Nat) : Int) = 1 by rfl] at this
        rw [this]
        rfl
      · have hr' : r = (f.length : Int) := by simpa using hr
        obtain ⟨h5, h6⟩ := h4 hr'
        rw [List.drop_zero] at h5 h6
        obtain ⟨h7, h8⟩ := wnt_hgt f 1 h5
        exact ⟨h8 N h6, h7, by omega⟩
    · exact ⟨false, fun k hk => by rw [if_pos h1, if_neg h2], fun h => by cases h⟩
  · exact ⟨false, fun k hk => by rw [if_neg h1], fun h => by cases h⟩

/-! ### the model -/
structure Gm (ns : List ByteArray) (rs : List (List Int)) : Prop where
  n40 : ns.length ≤ 40
  r60 : rs.length ≤ 60
  name : ∀ a ∈ ns, Gn a
  ne : ∀ (i j : Nat) (a b : ByteArray), i < j → ns[i]? = some a → ns[j]? = some b → a.toList ≠ b.toList
  rule : ∀ f ∈ rs, Vd ns.length f
theorem rdL_at {xs : List (List Int)} {i : Nat} {x : List Int} (h : xs[i]? = some x) : rd_L1 xs (i : Int) = x := by
  unfold rd_L1
  rw [Int.toNat_natCast, List.getD_eq_getElem?_getD, h]
  rfl
theorem model_l2 (ns : List ByteArray) (rs : List (List Int)) (hr : rs.length ≤ 60) : ∀ d i, rs.length = i + d → ∃ r : Int, (∀ k, 404 + d ≤ k → ignitionref01_CheckModel.l2 k (i : Int) ns rs = some r) ∧ (r = 0 → ∀ f ∈ rs.drop i, Vd ns.length f) := by
  intro d
  induction d with
  | zero =>
    intro i hi
    refine ⟨0, fun k hk => ?_, fun _ f hf => ?_⟩
    · obtain ⟨k, rfl⟩ : ∃ k', k = k' + 1 := ⟨k - 1, by omega⟩
      rw [ignitionref01_CheckModel.l2, if_neg (by omega)]
    · rw [List.drop_of_length_le (by omega)] at hf
      simp at hf
  | succ d ih =>
    intro i hi
    obtain ⟨f, hf⟩ : ∃ f, rs[i]? = some f := ⟨_, List.getElem?_eq_getElem (by omega)⟩
    obtain ⟨r, h1, h2⟩ := ih (i + 1) (by omega)
    obtain ⟨b, h3, h4⟩ := valid_f f ns.length
    have hd : rs.drop i = f :: rs.drop (i + 1) := by
      have hil := (List.getElem?_eq_some_iff.1 hf).1
      have : rs[i] = f := (List.getElem?_eq_some_iff.1 hf).2
      rw [List.drop_eq_getElem_cons hil, this]
    refine ⟨if b = true then r else 11, fun k hk => ?_, fun hr0 => ?_⟩
    · obtain ⟨k, rfl⟩ : ∃ k', k = k' + 1 := ⟨k - 1, by omega⟩
      rw [ignitionref01_CheckModel.l2, if_pos (by omega), if_pos (by omega), rdL_at hf, h3 k (by omega), Option.bind_some, wr_s i (by omega), h1 k (by omega)]
      split <;> rfl
    · by_cases hb : b = true
      · rw [if_pos hb] at hr0
        intro g hg
        rw [hd] at hg
        rcases List.mem_cons.1 hg with rfl | hg
        · exact h4 hb
        · exact h2 hr0 g hg
      · rw [if_neg hb] at hr0
        omega
theorem model_l1 (ns : List ByteArray) (rs : List (List Int)) (hn : ns.length ≤ 40) {i : Nat} {a : ByteArray} (ha : ns[i]? = some a) {K : Nat} {r : Int} (hr : ∀ k, K ≤ k → ignitionref01_CheckModel.l0 k ((i + 1 : Nat) : Int) ns rs = some r) : ∀ d j, i = j + d → ∃ r' : Int, (∀ k, K + d + 1 ≤ k → ignitionref01_CheckModel.l1 k (i : Int) (j : Int) ns rs = some r') ∧ (r' = 0 → r = 0 ∧ ∀ (j' : Nat) (b : ByteArray), j ≤ j' → j' < i → ns[j']? = some b → b.toList ≠ a.toList) := by
  have hil := (List.getElem?_eq_some_iff.1 ha).1
  intro d
  induction d with
  | zero =>
    intro j hj
    refine ⟨r, fun k hk => ?_, fun h => ⟨h, fun j' b h1 h2 _ => by omega⟩⟩
    obtain ⟨k, rfl⟩ : ∃ k', k = k' + 1 := ⟨k - 1, by omega⟩
    rw [ignitionref01_CheckModel.l1, if_neg (by omega), wr_s i (by omega)]
    exact hr k (by omega)
  | succ d ih =>
    intro j hj
    obtain ⟨r', h1, h2⟩ := ih (j + 1) (by omega)
    obtain ⟨b, hb⟩ : ∃ b, ns[j]? = some b := ⟨_, List.getElem?_eq_getElem (by omega)⟩
    by_cases he : b.toList = a.toList
    · refine ⟨10, fun k hk => ?_, fun h => by omega⟩
      obtain ⟨k, rfl⟩ : ∃ k', k = k' + 1 := ⟨k - 1, by omega⟩
      rw [ignitionref01_CheckModel.l1, if_pos (by omega), if_pos (by omega), if_pos (by omega), if_pos (by omega), if_pos (by omega), rdOf_at hb, rdOf_at ha, if_pos he]
    · refine ⟨r', fun k hk => ?_, fun h => ?_⟩
      · obtain ⟨k, rfl⟩ : ∃ k', k = k' + 1 := ⟨k - 1, by omega⟩
        rw [ignitionref01_CheckModel.l1, if_pos (by omega), if_pos (by omega), if_pos (by omega), if_pos (by omega), if_pos (by omega), rdOf_at hb, rdOf_at ha, if_neg he, wr_s j (by omega)]
        exact h1 k (by omega)
      · obtain ⟨h3, h4⟩ := h2 h
        refine ⟨h3, fun j' c hj1 hj2 hc => ?_⟩
        rcases Nat.eq_or_lt_of_le hj1 with rfl | hj1
        · rw [hb] at hc
          cases hc
          exact he
        · exact h4 j' c hj1 hj2 hc
theorem model_l0 (ns : List ByteArray) (rs : List (List Int)) (hn : ns.length ≤ 40) (hr : rs.length ≤ 60) : ∀ d i, ns.length = i + d → ∃ r : Int, (∀ k, 500 + d * 50 ≤ k → ignitionref01_CheckModel.l0 k (i : Int) ns rs = some r) ∧
    (r = 0 → (∀ f ∈ rs, Vd ns.length f) ∧ (∀ (j : Nat) (a : ByteArray), i ≤ j → ns[j]? = some a → Gn a ∧ ∀ (j' : Nat) (b : ByteArray), j' < j → ns[j']? = some b → b.toList ≠ a.toList)) := by
  intro d
  induction d with
  | zero =>
    intro i hi
    obtain ⟨r, h1, h2⟩ := model_l2 ns rs hr rs.length 0 (by omega)
    refine ⟨r, fun k hk => ?_, fun h0 => ⟨by simpa using h2 h0, fun j a hj ha => by have := (List.getElem?_eq_some_iff.1 ha).1; omega⟩⟩
    obtain ⟨k, rfl⟩ : ∃ k', k = k' + 1 := ⟨k - 1, by omega⟩
    rw [ignitionref01_CheckModel.l0, if_neg (by omega)]
    exact h1 k (by omega)
  | succ d ih =>
    intro i hi
    obtain ⟨a, ha⟩ : ∃ a, ns[i]? = some a := ⟨_, List.getElem?_eq_getElem (by omega)⟩
    obtain ⟨r, h1, h2⟩ := ih (i + 1) (by omega)
    obtain ⟨r', h3, h4⟩ := model_l1 ns rs hn ha h1 i 0 (by omega)
    obtain ⟨b, h5, h6⟩ := name_f a
    refine ⟨if b = true then r' else 10, fun k hk => ?_, fun h0 => ?_⟩
    · obtain ⟨k, rfl⟩ : ∃ k', k = k' + 1 := ⟨k - 1, by omega⟩
      have := h3 k (by omega)
      rw [Int.natCast_zero] at this
      rw [ignitionref01_CheckModel.l0, if_pos (by omega), if_pos (by omega), rdOf_at ha, h5 k (by omega), Option.bind_some, this]
      split <;> rfl
    · by_cases hb : b = true
      · rw [if_pos hb] at h0
        obtain ⟨h7, h8⟩ := h4 h0
        obtain ⟨h9, h10⟩ := h2 h7
        refine ⟨h9, fun j c hj hc => ?_⟩
        rcases Nat.eq_or_lt_of_le hj with rfl | hj
        · rw [ha] at hc
          cases hc
          exact ⟨h6 hb, fun j' x hj' hx => h8 j' x (Nat.zero_le _) hj' hx⟩
        · exact h10 j c hj hc
      · rw [if_neg hb] at h0
        omega
theorem model_f (ns : List ByteArray) (rs : List (List Int)) : ∃ r : Int, ignitionref01_CheckModel.f 3000 ns rs = some r ∧ (r = 0 → Gm ns rs) := by
  have j2 : ignitionref01_CheckModel.j0 3000 true ns rs = some 2 := by rw [ignitionref01_CheckModel.j0, if_pos rfl]
  unfold ignitionref01_CheckModel.f
  by_cases h1 : (ns.length : Int) > 40
  · exact ⟨2, by rw [if_pos h1]; exact j2, fun h => by omega⟩
  by_cases h2 : (rs.length : Int) > 60
  · exact ⟨2, by rw [if_neg h1, decide_eq_true h2]; exact j2, fun h => by omega⟩
  obtain ⟨r, h3, h4⟩ := model_l0 ns rs (by omega) (by omega) ns.length 0 (by omega)
  refine ⟨r, ?_, fun h0 => ?_⟩
  · have := h3 2999 (by omega)
    rw [Int.natCast_zero] at this
    rw [if_neg h1, decide_eq_false h2, ignitionref01_CheckModel.j0, if_neg (by decide)]
    exact this
  · obtain ⟨h5, h6⟩ := h4 h0
    refine ⟨by omega, by omega, fun a ha => ?_, fun i j a b hij ha hb => (h6 j b (Nat.zero_le _) hb).2 i a hij ha, h5⟩
    obtain ⟨i, hi⟩ := List.getElem?_of_mem ha
    exact (h6 i a (Nat.zero_le _) hi).1
end Go.Proofs.Ytiglkpgoakibaaa
namespace Go.Proofs.Ytiglkpgoakibaaa
open Go.RowKit Go.Maps PTopKnots Go.Proofs.YtiglkpgoakibaaaW.PrintWords
set_option linter.unusedVariables false
set_option linter.unusedSimpArgs false

set_option maxRecDepth 100000 in
theorem valid_any {w : World} {N g off cap : Nat} {A : Option Addr} {f : List Int} (hv : Vd N f) (hr : RdF w A g off f) (hg : g < w.heap.size) :
    Calls Try.prog 44 #[.slice A f.length cap, .int .i64 N] w fun e w' => e = .returned (.bool true) ∧ Below w.heap.size w w' := by
  obtain ⟨m, hm⟩ : ∃ m, f.length = m := ⟨_, rfl⟩
  have hm100 : m ≤ 100 := by rw [← hm]; exact hv.len
  have hm0 : 0 < m := by
    rcases Nat.eq_zero_or_pos m with h | h
    · have h1 := hv.one
      rw [List.eq_nil_of_length_eq_zero (hm.trans h)] at h1
      cases h1
    · exact h
  obtain rfl := hr.hA (by omega)
  rw [hm]
  have HM := Lib.hid hm
  have HR := Lib.hid hr
  have HV := Lib.hid hv
  clear hm hr hv
  go_enter Try.func44, Try.ntmps44
  go_wp2_with fail
  go_loopw [5, 10] (fun t i wr => ∃ (k h : Nat), k ≤ m ∧ i = .int .i64 k ∧ t = .int .i64 h ∧ Hid (hgt (f.drop k) = h) ∧ Hid (Below w.heap.size w wr)) (fun _ i _ => m - (intOf i).toNat)
  case atStart => exact ⟨0, 1, Nat.zero_le _, rfl, rfl, HV.out.one, Below.refl _ _⟩
  case round =>
    obtain ⟨k, h, hk, rfl, rfl, HH, HB⟩ := hrel
    obtain ⟨wa, rfl⟩ : ∃ wa : World, wa = wr := ⟨_, rfl⟩
    by_cases hlt : k < m
    · obtain ⟨x, hx⟩ : ∃ x, f[k]? = some x := ⟨_, List.getElem?_eq_getElem (by rw [HM.out]; exact hlt)⟩
      obtain ⟨hx1, hx2, hx3⟩ := okF_at HV.out.ok hx
      have hdr := HH.out
      rw [drop_at hx, hgt] at hdr
      have hle := hgt_le (f.drop (k + 1))
      rw [List.length_drop, HM.out] at hle
      obtain ⟨h', hh'⟩ : ∃ h', hgt (f.drop (k + 1)) = h' := ⟨_, rfl⟩
      obtain ⟨o, ho⟩ : ∃ o, opn x = o := ⟨_, rfl⟩
      have hop := opn_le x
      rw [hh'] at hdr hx1 hle
      rw [ho] at hdr hx1 hop
      have hpos : 1 ≤ h := by omega
      have hnx : (h : Int) + ((o : Int) - 1) = (h' : Int) := by omega
      have q0 : wa.cell? ⟨g, off + k, none⟩ = some (.int .i64 x) := (World.cell?_of_block (HB.out.block g hg)).trans (HR.out.hc k x hx)
      have HOP : Hid (Calls Try.prog 32 #[.int .i64 x] wa fun e w' => e = .returned (.int .i64 (o : Nat)) ∧ Drawn0 wa w') := Lib.hid (options_operands.calls x o wa (by rw [← ho]; exact opn_f x))
      have HH' := Lib.hid hh'
      have HNX : Hid (wrap64 ((h : Int) + ((o : Int) - 1)) = (h' : Int)) := Lib.hid (by unfold wrap64; omega)
      have h0 : (((h : Nat) : Int) == 0) = false := by simp; omega
      have hl6 : decide (x < -6) = false := decide_eq_false (by omega)
      have hlN : decide ((N : Int) ≤ x) = false := decide_eq_false (by omega)
      clear hx ho hh' hdr hx1 hnx
      go_wp2_with fail
      refine HOP.out.mono ?_
      rintro e wd ⟨rfl, hD⟩
      have HBd := Lib.hid (HB.out.trans (hD.below.mono HB.out.size))
      clear hD
      go_wp2_with fail
      refine ⟨⟨k + 1, h', by omega, by simp, by rw [← HNX.out], HH', HBd⟩, by simp [intOf]; omega⟩
    · obtain rfl : m = k := by omega
      have hh : h = 0 := by rw [← HH.out, List.drop_of_length_le (by rw [HM.out]; exact Nat.le_refl _)]; rfl
      subst hh
      have hdm : decide ((m : Int) ≤ 100) = true := decide_eq_true (by omega)
      clear hk
      go_wp2_with fail
      go_ret
      exact ⟨rfl, HB.out⟩
end Go.Proofs.Ytiglkpgoakibaaa
namespace Go.Proofs.Ytiglkpgoakibaaa
open Go.RowKit Go.Maps PTopKnots Go.Proofs.YtiglkpgoakibaaaW.PrintWords
set_option linter.unusedVariables false
set_option linter.unusedSimpArgs false

set_option maxRecDepth 100000 in
theorem clos_any {w : World} {N g off cap b c0 : Nat} {A A0 : Option Addr} {f : List Int} (hv : Vd N f) (hr : RdF w A g off f) (hg : g < w.heap.size) (hb : w.cell? ⟨b, 0, none⟩ = some (.slice A0 N c0)) :
    Calls Try.prog 43 #[.slice A f.length cap, .pointer (some ⟨b, 0, none⟩)] w fun e w' => e = .returned (.bool false) ∧ Below w.heap.size w w' := by
  have HJ := Lib.hid (valid_any (cap := cap) hv hr hg)
  clear hv hr hg
  go_enter Try.func43, Try.ntmps43
  go_wp2_with fail
  refine HJ.out.mono ?_
  rintro e w1 ⟨rfl, hB⟩
  have HB := Lib.hid hB
  clear hB
  go_wp2_with fail
  go_ret
  exact ⟨rfl, HB.out⟩
set_option maxRecDepth 100000 in
theorem index_any {w : World} {N B g off cap b c0 : Nat} {A A0 : Option Addr} {fs : List (List Int)} (hv : ∀ f ∈ fs, Vd N f) (hr : RdFs w B A g off fs) (hB : B ≤ w.heap.size) (hl : fs.length ≤ 1000) (hb : w.cell? ⟨b, 0, none⟩ = some (.slice A0 N c0)) (hbl : b < w.heap.size) :
    Calls Try.prog 45 #[.slice A fs.length cap, .func (.func 43) #[] #[.pointer (some ⟨b, 0, none⟩)]] w fun e w' => e = .returned (.int .i64 (-1)) ∧ Below w.heap.size w w' := by
  obtain ⟨m, hm⟩ : ∃ m, fs.length = m := ⟨_, rfl⟩
  rw [hm] at hl ⊢
  have HM := Lib.hid hm
  have HR := Lib.hid hr
  have HV := Lib.hid hv
  have HBB := Lib.hid hb
  clear hr hv hm hb
  go_enter Try.func45, Try.ntmps45
  go_wp2_with fail
  go_loopw [8] (fun i wr => ∃ k : Nat, k ≤ m ∧ i = .int .i64 k ∧ Hid (Below w.heap.size w wr)) (fun i _ => m - (intOf i).toNat)
  case atStart => exact ⟨0, Nat.zero_le _, rfl, Below.refl _ _⟩
  case round =>
    obtain ⟨k, hk, rfl, HB⟩ := hrel
    obtain ⟨wa, rfl⟩ : ∃ wa : World, wa = wr := ⟨_, rfl⟩
    by_cases hlt : k < m
    · obtain ⟨f, hf⟩ : ∃ x, fs[k]? = some x := ⟨_, List.getElem?_eq_getElem (by rw [HM.out]; exact hlt)⟩
      have hfv := HV.out f (List.mem_of_getElem? hf)
      obtain rfl := HR.out.hA (by rw [HM.out]; omega)
      obtain ⟨A', g', off', cap', r1, r2, r3⟩ := (HR.out.below (HB.out.mono hB)).hc k f hf
      have hf0 : 0 < f.length := by
        rcases Nat.eq_zero_or_pos f.length with h | h
        · have h1 := hfv.one
          rw [List.eq_nil_of_length_eq_zero h] at h1
          cases h1
        · exact h
      have r3 := r3 hf0
      have hz := HB.out.size
      have HJ := Lib.hid (clos_any (cap := cap') hfv r2 (by omega) ((World.cell?_of_block (HB.out.block b hbl)).trans HBB.out))
      clear hf hfv r2 hf0
      go_wp2_with fail
      refine HJ.out.mono ?_
      rintro e w1 ⟨rfl, hB1⟩
      have HB1 := Lib.hid (HB.out.trans (hB1.mono hz))
      clear hB1
      go_wp2_with fail
      exact ⟨⟨k + 1, by omega, by simp, HB1⟩, by simp [intOf]; omega⟩
    · obtain rfl : m = k := by omega
      clear hk
      go_wp2_with fail
      go_ret
      exact ⟨rfl, HB.out⟩
set_option maxRecDepth 100000 in
theorem contains_any {w : World} {N B g off cap b c0 : Nat} {A A0 : Option Addr} {fs : List (List Int)} (hv : ∀ f ∈ fs, Vd N f) (hr : RdFs w B A g off fs) (hB : B ≤ w.heap.size) (hl : fs.length ≤ 1000) (hb : w.cell? ⟨b, 0, none⟩ = some (.slice A0 N c0)) (hbl : b < w.heap.size) :
    Calls Try.prog 42 #[.slice A fs.length cap, .func (.func 43) #[] #[.pointer (some ⟨b, 0, none⟩)]] w fun e w' => e = .returned (.bool false) ∧ Below w.heap.size w w' := by
  have HJ := Lib.hid (index_any (cap := cap) hv hr hB hl hb hbl)
  clear hv hr hb
  go_enter Try.func42, Try.ntmps42
  go_wp2_with fail
  refine HJ.out.mono ?_
  rintro e w1 ⟨rfl, hB1⟩
  have HB1 := Lib.hid hB1
  clear hB1
  go_wp2_with fail
  go_ret
  exact ⟨rfl, HB1.out⟩
set_option maxRecDepth 100000 in
theorem checkF_any {w : World} {N B g off cap c0 : Nat} {A A0 : Option Addr} {v1 : Value} {fs : List (List Int)} (hv : ∀ f ∈ fs, Vd N f) (hr : RdFs w B A g off fs) (hB : B ≤ w.heap.size) (hl : fs.length ≤ 1000) (A1 : Option Addr) (l1 c1 : Nat) (hv1 : v1 = .slice A1 l1 c1) :
    Calls Try.prog 38 #[.agg #[.slice A0 N c0, v1], .slice A fs.length cap] w fun e w' => e = .returned (.int .i64 0) ∧ Below w.heap.size w w' := by
  subst hv1
  have hmf : ∀ (fn : Fn) (first cap : Array Value) (w : World), (Instr.makeFunc fn first cap).run Try.prog w = .ok (.func fn first cap) w := fun _ _ _ _ => rfl
  have hb0 : Below w.heap.size w (w.alloc (.cells #[.slice A0 N c0, .slice A1 l1 c1] 25)) := (Below.refl _ w).alloc (Nat.le_refl _) _
  have HJ := Lib.hid (contains_any (w := w.alloc (.cells #[.slice A0 N c0, .slice A1 l1 c1] 25)) (cap := cap) (b := w.heap.size) (A0 := A0) (c0 := c0) hv (hr.below (hb0.mono hB)) (by simp; omega) hl ((blk_cell' (allocNew _ _ _ rfl) 0).trans rfl) (by simp))
  have HB0 := Lib.hid hb0
  clear hv hr hb0
  go_enter Try.func38, Try.ntmps38
  go_wp2_with fail
  refine HJ.out.mono ?_
  rintro e w1 ⟨rfl, hB1⟩
  have HB1 := Lib.hid (HB0.out.trans (hB1.mono HB0.out.size))
  clear hB1
  go_wp2_with fail
  go_ret
  exact ⟨rfl, HB1.out⟩
end Go.Proofs.Ytiglkpgoakibaaa
namespace Go.Proofs.Ytiglkpgoakibaaa
open Go.RowKit Go.Maps PTopKnots Go.Proofs.YtiglkpgoakibaaaW.PrintWords
set_option linter.unusedVariables false
set_option linter.unusedSimpArgs false

/-- A model that is read. -/
structure Mo (w : World) (B : Nat) (A0 : Option Addr) (c0 : Nat) (A1 : Option Addr) (g off c1 : Nat) (ns : List ByteArray) (rs : List (List Int)) : Prop where
  good : Gm ns rs
  n10 : ns.length ≤ 10
  r10 : rs.length ≤ 10
  nc : Kd.C Kd.string w A0 ns.length ns
  ncap : ns.length ≤ c0
  rc : RdFs w B A1 g off rs
  hB : B ≤ w.heap.size
theorem Mo.below {w w' : World} {B c0 g off c1 : Nat} {A0 A1 : Option Addr} {ns : List ByteArray} {rs : List (List Int)} (h : Mo w B A0 c0 A1 g off c1 ns rs) (hb : Below w.heap.size w w') : Mo w' B A0 c0 A1 g off c1 ns rs :=
  ⟨h.good, h.n10, h.r10, Kd.C_below h.nc hb, h.ncap, h.rc.below (hb.mono h.hB), Nat.le_trans h.hB hb.size⟩
theorem C_take {w : World} {A : Option Addr} {n : Nat} {xs : List ByteArray} (h : Kd.C Kd.string w A n xs) (k : Nat) (hk : k ≤ xs.length) : Kd.C Kd.string w A k (xs.take k) := by
  have hl : xs.length = n := h.1
  refine ⟨by rw [List.length_take]; omega, by have := h.2.1; omega, fun h0 => ?_⟩
  obtain ⟨ad, e, hc⟩ := h.2.2 (by omega)
  refine ⟨ad, e, fun j p hj => hc j p ?_⟩
  have hjl := (List.getElem?_eq_some_iff.1 hj).1
  rw [List.length_take] at hjl
  rw [List.getElem?_take_of_lt (by omega)] at hj
  exact hj
set_option maxRecDepth 100000 in
theorem checkM_any {w : World} {B c0 g off c1 : Nat} {A0 A1 : Option Addr} {ns : List ByteArray} {rs : List (List Int)} (hM : Mo w B A0 c0 A1 g off c1 ns rs) :
    Calls Try.prog 23 #[.agg #[.slice A0 ns.length c0, .slice A1 rs.length c1]] w fun e w' => e = .returned (.int .i64 0) ∧ Below w.heap.size w w' := by
  obtain ⟨m, hm⟩ : ∃ m, ns.length = m := ⟨_, rfl⟩
  obtain ⟨q, hq⟩ : ∃ q, rs.length = q := ⟨_, rfl⟩
  obtain ⟨w1, hw1⟩ : ∃ w1, w.alloc (.cells #[.slice A0 m c0, .slice A1 q c1] 25) = w1 := ⟨_, rfl⟩
  have hB1 : Below w.heap.size w w1 := by rw [← hw1]; exact (Below.refl _ w).alloc (Nat.le_refl _) _
  have k0 : w1.heap[w.heap.size]? = some (.cells #[.slice A0 m c0, .slice A1 q c1] 25 (0, 0)) := by rw [← hw1]; exact allocNew _ _ _ rfl
  have HM := Lib.hid (hM.below hB1)
  have h10 : m ≤ 10 := by rw [← hm]; exact hM.n10
  have q10 : q ≤ 10 := by rw [← hq]; exact hM.r10
  have hmc : m ≤ c0 := by rw [← hm]; exact hM.ncap
  rw [hm, hq]
  have HL := Lib.hid hm
  have HQ := Lib.hid hq
  have HB1 := Lib.hid hB1
  have d1 : decide ((40 : Int) < m) = false := decide_eq_false (by omega)
  have d2 : decide ((60 : Int) < q) = false := decide_eq_false (by omega)
  have p0 : w1.cell? ⟨w.heap.size, 0, none⟩ = some (.slice A0 m c0) := (blk_cell' k0 0).trans rfl
  have p1 : w1.cell? ⟨w.heap.size, 1, none⟩ = some (.slice A1 q c1) := (blk_cell' k0 1).trans rfl
  have hlt0 : w.heap.size < w1.heap.size := blk_lt' k0
  have P0 := Lib.hid p0
  have P1 := Lib.hid p1
  clear hm hq hM hB1 k0
  go_enter Try.func23, Try.ntmps23
  go_wp2_with fail
  go_loopw [18] (fun i wr => ∃ k : Nat, k ≤ m ∧ i = .int .i64 k ∧ Hid (Below w1.heap.size w1 wr)) (fun i _ => m - (intOf i).toNat)
  case atStart => exact ⟨0, Nat.zero_le _, rfl, Below.refl _ _⟩
  case round =>
    obtain ⟨k, hk, rfl, HB⟩ := hrel
    obtain ⟨wa, rfl⟩ : ∃ wa : World, wa = wr := ⟨_, rfl⟩
    have p0 : wa.cell? ⟨w.heap.size, 0, none⟩ = some (.slice A0 m c0) := pw_cell_below HB.out P0.out
    have p1 : wa.cell? ⟨w.heap.size, 1, none⟩ = some (.slice A1 q c1) := pw_cell_below HB.out P1.out
    by_cases hlt : k < m
    · obtain ⟨a, ha⟩ : ∃ x, ns[k]? = some x := ⟨_, List.getElem?_eq_getElem (by rw [HL.out]; exact hlt)⟩
      have hM := HM.out.below HB.out
      obtain ⟨ad, rfl, hcell⟩ := Kd.at_string hM.nc (k : Int) (by omega) (by rw [HL.out]; omega)
      rw [Int.toNat_natCast, rdOf_at ha] at hcell
      have HN : Hid (Calls Try.prog 36 #[.string a] wa fun e w' => e = .returned (.bool true) ∧ Drawn0 wa w') := Lib.hid (options_named.calls 20 a true wa (named_f (hM.good.name a (List.mem_of_getElem? ha))))
      have HA := Lib.hid ha
      have HMa := Lib.hid hM
      clear ha hM
      go_wp2_with fail
      refine HN.out.mono ?_
      rintro e wd ⟨rfl, hD⟩
      have hMd := HMa.out.below hD.below
      have HBd := Lib.hid (HB.out.trans (hD.below.mono HB.out.size))
      have p0 : wd.cell? ⟨w.heap.size, 0, none⟩ = some (.slice (some ad) m c0) := pw_cell_below HBd.out P0.out
      have p1 : wd.cell? ⟨w.heap.size, 1, none⟩ = some (.slice A1 q c1) := pw_cell_below HBd.out P1.out
      have HC : Hid (Calls Try.prog 37 #[.slice (some ad) k c0, .string a] wd fun e w' => e = .returned (.bool false) ∧ Drawn0 wd w') := by
        have hl : (ns.take k).length = k := by rw [List.length_take, HL.out]; omega
        have h := slices_Contains_string_string.calls 200 (some ad) c0 (ns.take k) a false wd (by rw [hl]; exact C_take hMd.nc k (by rw [HL.out]; omega)) (by omega) (contains_f _ _ (by omega) fun y hy => by
          obtain ⟨j, hj⟩ := List.getElem?_of_mem hy
          have hjl := (List.getElem?_eq_some_iff.1 hj).1
          rw [List.getElem?_take_of_lt (by omega)] at hj
          exact fun e => hMd.good.ne j k y a (by omega) hj HA.out e.symm)
        rw [hl] at h
        exact Lib.hid h
      clear hD hMd hcell
      go_wp2_with fail
      refine HC.out.mono ?_
      rintro e we ⟨rfl, hE⟩
      have HBe := Lib.hid (HBd.out.trans (hE.below.mono HBd.out.size))
      clear hE
      go_wp2_with fail
      exact ⟨⟨k + 1, by omega, by simp, HBe⟩, by simp [intOf]; omega⟩
    · obtain rfl : m = k := by omega
      have HJ : Hid (Calls Try.prog 38 #[.agg #[.slice A0 m c0, .slice A1 q c1], .slice A1 q c1] wa fun e w' => e = .returned (.int .i64 0) ∧ Below wa.heap.size wa w') := by
        have hM := HM.out.below HB.out
        have h := checkF_any (N := m) (cap := c1) (c0 := c0) (A0 := A0) (v1 := .slice A1 q c1) (fs := rs) (by rw [← HL.out]; exact hM.good.rule) hM.rc hM.hB (by rw [HQ.out]; omega) A1 q c1 rfl
        rw [HQ.out] at h
        exact Lib.hid h
      clear hk
      go_wp2_with fail
      refine HJ.out.mono ?_
      rintro e we ⟨rfl, hE⟩
      have HBe := Lib.hid (HB1.out.trans ((HB.out.trans (hE.mono HB.out.size)).mono HB1.out.size))
      clear hE
      go_wp2_with fail
      go_ret
      exact ⟨rfl, HBe.out⟩
set_option maxRecDepth 100000 in
theorem check_any {w : World} {B B' c0 g off c1 g' off' c2 : Nat} {A0 A1 A2 : Option Addr} {ns : List ByteArray} {rs fs : List (List Int)} (hM : Mo w B A0 c0 A1 g off c1 ns rs)
    (hv : ∀ f ∈ fs, Vd ns.length f) (hr : RdFs w B' A2 g' off' fs) (hB' : B' ≤ w.heap.size) (hl : fs.length ≤ 1000) :
    Calls Try.prog 27 #[.agg #[.slice A0 ns.length c0, .slice A1 rs.length c1], .slice A2 fs.length c2] w fun e w' => e = .returned (.int .i64 0) ∧ Below w.heap.size w w' := by
  obtain ⟨m, hm⟩ : ∃ m, ns.length = m := ⟨_, rfl⟩
  obtain ⟨q, hq⟩ : ∃ q, rs.length = q := ⟨_, rfl⟩
  obtain ⟨l, hfl⟩ : ∃ l, fs.length = l := ⟨_, rfl⟩
  obtain ⟨w1, hw1⟩ : ∃ w1, w.alloc (.cells #[.slice A0 m c0, .slice A1 q c1] 25) = w1 := ⟨_, rfl⟩
  have hB1 : Below w.heap.size w w1 := by rw [← hw1]; exact (Below.refl _ w).alloc (Nat.le_refl _) _
  have k0 : w1.heap[w.heap.size]? = some (.cells #[.slice A0 m c0, .slice A1 q c1] 25 (0, 0)) := by rw [← hw1]; exact allocNew _ _ _ rfl
  have p0 : w1.cell? ⟨w.heap.size, 0, none⟩ = some (.slice A0 m c0) := (blk_cell' k0 0).trans rfl
  have p1 : w1.cell? ⟨w.heap.size, 1, none⟩ = some (.slice A1 q c1) := (blk_cell' k0 1).trans rfl
  have HJ : Hid (Calls Try.prog 23 #[.agg #[.slice A0 m c0, .slice A1 q c1]] w1 fun e w' => e = .returned (.int .i64 0) ∧ Below w1.heap.size w1 w') := by
    have h := checkM_any (hM.below hB1)
    rw [hm, hq] at h
    exact Lib.hid h
  have HK : Hid (∀ w2, Below w.heap.size w w2 → Calls Try.prog 38 #[.agg #[.slice A0 m c0, .slice A1 q c1], .slice A2 l c2] w2 fun e w' => e = .returned (.int .i64 0) ∧ Below w2.heap.size w2 w') := Lib.hid fun w2 h2 => by
    have h := checkF_any (w := w2) (N := m) (B := B') (g := g') (off := off') (A := A2) (cap := c2) (c0 := c0) (A0 := A0) (v1 := .slice A1 q c1) (fs := fs) (by rw [← hm]; exact hv) (hr.below (h2.mono hB')) (Nat.le_trans hB' h2.size) hl A1 q c1 rfl
    rw [hfl] at h
    exact h
  have HB1 := Lib.hid hB1
  rw [hm, hq, hfl]
  clear hM hv hr hB1 k0 hm hq hfl
  go_enter Try.func27, Try.ntmps27
  go_wp2_with fail
  refine HJ.out.mono ?_
  rintro e w2 ⟨rfl, h2⟩
  have HB2 := Lib.hid (HB1.out.trans (h2.mono HB1.out.size))
  have p0 : w2.cell? ⟨w.heap.size, 0, none⟩ = some (.slice A0 m c0) := pw_cell_below h2 p0
  have p1 : w2.cell? ⟨w.heap.size, 1, none⟩ = some (.slice A1 q c1) := pw_cell_below h2 p1
  clear h2
  go_wp2_with fail
  refine (HK.out w2 HB2.out).mono ?_
  rintro e w3 ⟨rfl, h3⟩
  have HB3 := Lib.hid (HB2.out.trans (h3.mono HB2.out.size))
  clear h3
  go_wp2_with fail
  go_ret
  exact ⟨rfl, HB3.out⟩
end Go.Proofs.Ytiglkpgoakibaaa
namespace Go.Proofs.Ytiglkpgoakibaaa
open Go.RowKit Go.Maps PTopKnots Go.Proofs.YtiglkpgoakibaaaW.PrintWords
set_option linter.unusedVariables false
set_option linter.unusedSimpArgs false

theorem Abv.mono {F : Fb} {B B' : Nat} (h : Abv F B) (hb : B' ≤ B) : Abv F B' := ⟨Nat.le_trans hb h.p, Nat.le_trans hb h.kb, Nat.le_trans hb h.mb, Nat.le_trans hb h.jb⟩
theorem costJ_10 {N : Nat} (h : N ≤ 10) : costJ N ≤ 2046 := Nat.le_trans (costJ_mono h) (by decide)
theorem cost_all {N l : Nat} (h : N ≤ 10) (hl : l ≤ 10) : l * (102 * (costJ N + 1)) ≤ 2100000 := by
  have h1 := costJ_10 h
  have h2 : 102 * (costJ N + 1) ≤ 208794 := by omega
  have h3 := Nat.mul_le_mul hl h2
  omega
/-- What begin leaves: a forest, and the node of the rules. -/
def BegPost (w : World) (N : Nat) (rs : List (List Int)) (e : Ending) (w' : World) : Prop :=
  ∃ (n : Nat) (F : Fb) (Ks : List Kn), e = .returned (.tuple #[.pointer (some ⟨F.p, 0, none⟩), .int .i64 n, .int .i64 0]) ∧ Fo w' F N Ks 2100000 ∧ Abv F w.heap.size ∧ Below w.heap.size w w' ∧ n < Ks.length ∧ ∀ v, ev Ks n v = asem rs v
set_option maxRecDepth 100000 in
theorem begin_any {w : World} {B B' c0 g off c1 g' off' c2 : Nat} {A0 A1 A2 : Option Addr} {ns : List ByteArray} {rs fs : List (List Int)} (hM : Mo w B A0 c0 A1 g off c1 ns rs)
    (hv : ∀ f ∈ fs, Vd ns.length f) (hr : RdFs w B' A2 g' off' fs) (hB' : B' ≤ w.heap.size) (hl : fs.length ≤ 1000) :
    Calls Try.prog 17 #[.agg #[.slice A0 ns.length c0, .slice A1 rs.length c1], .slice A2 fs.length c2] w (BegPost w ns.length rs) := by
  obtain ⟨m, hm⟩ : ∃ m, ns.length = m := ⟨_, rfl⟩
  obtain ⟨q, hq⟩ : ∃ q, rs.length = q := ⟨_, rfl⟩
  obtain ⟨l, hfl⟩ : ∃ l, fs.length = l := ⟨_, rfl⟩
  obtain ⟨w1, hw1⟩ : ∃ w1, w.alloc (.cells #[.slice A0 m c0, .slice A1 q c1] 25) = w1 := ⟨_, rfl⟩
  have hB1 : Below w.heap.size w w1 := by rw [← hw1]; exact (Below.refl _ w).alloc (Nat.le_refl _) _
  have k0 : w1.heap[w.heap.size]? = some (.cells #[.slice A0 m c0, .slice A1 q c1] 25 (0, 0)) := by rw [← hw1]; exact allocNew _ _ _ rfl
  have p0 : w1.cell? ⟨w.heap.size, 0, none⟩ = some (.slice A0 m c0) := (blk_cell' k0 0).trans rfl
  have p1 : w1.cell? ⟨w.heap.size, 1, none⟩ = some (.slice A1 q c1) := (blk_cell' k0 1).trans rfl
  have HJ : Hid (Calls Try.prog 27 #[.agg #[.slice A0 m c0, .slice A1 q c1], .slice A2 l c2] w1 fun e w' => e = .returned (.int .i64 0) ∧ Below w1.heap.size w1 w') := by
    have h := check_any (c2 := c2) (hM.below hB1) hv (hr.below (hB1.mono hB')) (Nat.le_trans hB' hB1.size) hl
    rw [hm, hq, hfl] at h
    exact Lib.hid h
  have HM := Lib.hid hM
  have HB1 := Lib.hid hB1
  have HN := Lib.hid hm
  have HQ := Lib.hid hq
  rw [hm, hq, hfl]
  clear hM hv hr hB1 k0 hm hq hfl
  go_enter Try.func17, Try.ntmps17
  go_wp2_with fail
  refine HJ.out.mono ?_
  rintro e w2 ⟨rfl, h2⟩
  have HB2 := Lib.hid (HB1.out.trans (h2.mono HB1.out.size))
  have p0 : w2.cell? ⟨w.heap.size, 0, none⟩ = some (.slice A0 m c0) := pw_cell_below h2 p0
  have p1 : w2.cell? ⟨w.heap.size, 1, none⟩ = some (.slice A1 q c1) := pw_cell_below h2 p1
  have HNEW := Lib.hid (new_any w2 m)
  obtain ⟨w3, hw3⟩ : ∃ w3, wN w2 m = w3 := ⟨_, rfl⟩
  have hB23 : Below w2.heap.size w2 w3 := by rw [← hw3]; exact new_below w2 m
  have p0 : w3.cell? ⟨w.heap.size, 0, none⟩ = some (.slice A0 m c0) := pw_cell_below hB23 p0
  have p1 : w3.cell? ⟨w.heap.size, 1, none⟩ = some (.slice A1 q c1) := pw_cell_below hB23 p1
  have HB3 := Lib.hid (HB2.out.trans (hB23.mono HB2.out.size))
  have HALL : Hid (Calls Try.prog 24 #[.pointer (some ⟨(FN w2).p, 0, none⟩), .slice A1 q c1] w3 (KnPost m 2100000 (Ks0 m) w3 (FN w2) (asem rs))) := by
    have hM3 := HM.out.below HB3.out
    have h10 : m ≤ 10 := by rw [← HN.out]; exact HM.out.n10
    have hcost := cost_all h10 HM.out.r10
    have hfo := new_fo w2 m
    rw [hw3] at hfo
    have h := all_any (cap := c1) (N := m) (B := B) (by omega) hfo (by rw [← HN.out]; exact hM3.good.rule) (by have := hM3.r10; omega) hM3.rc hM3.hB ((new_abv w2).mono (Nat.le_trans HM.out.hB HB2.out.size)) (by omega)
    rw [HQ.out] at h
    rw [HQ.out] at hcost
    exact Lib.hid (h.mono fun e w' h => h.more (by omega) fun _ => rfl)
  obtain ⟨P, hP⟩ : ∃ P, FN w2 = P := ⟨_, rfl⟩
  have HABV : Hid (Abv P w.heap.size) := by rw [← hP]; exact Lib.hid ((new_abv w2).mono HB2.out.size)
  rw [hP] at HALL HNEW
  rw [hw3] at HNEW
  clear h2 hB23 hP hw3
  go_wp2_with fail
  refine HNEW.out.mono ?_
  rintro e w3' ⟨rfl, rfl⟩
  go_wp2_with fail
  refine HALL.out.mono ?_
  rintro e w4 ⟨n, F', K', rfl, h1, h3, h4, h5⟩
  have hfin : BegPost w m rs (.returned (.tuple #[.pointer (some ⟨P.p, 0, none⟩), .int .i64 n, .int .i64 0])) w4 := by
    refine ⟨n, F', K', by rw [h3.p], h1, h3.abv HABV.out HB3.out.size, HB3.out.trans (h3.bel HABV.out HB3.out.size), h4, h5⟩
  have HFIN := Lib.hid hfin
  clear h1 h3 h4 h5 hfin
  go_wp2_with fail
  go_ret3
  exact HFIN.out
end Go.Proofs.Ytiglkpgoakibaaa
