/- Sets of small numbers, as bits. Plain numbers. No condition beyond those named. Numbers, sets and lists that are turned on (around, aroundBits, aroundInts). Plain numbers. No condition beyond those named. Nodes and nudges that are turned on: asking and noise. Plain lists. No condition beyond those named. Nodes and nudges that are turned on: noise, sending. Plain lists. No condition beyond those named. A play of nodes that are turned on: its rows are turned on. Plain lists. No condition beyond those named. Clusters that are turned on: a play begins, and fails, alike. Plain lists. No condition beyond those named. What Play, Asked, Fail and the parked sums answer of clusters that are turned on. Plain lists. No condition beyond those named. Members and Choose of clusters that are turned on. Plain lists. No condition beyond those named. Choose of clusters that are turned on. Plain lists. No condition beyond those named. Choose of clusters that are turned on answers the same. Plain lists. No condition beyond those named. -/
import Derived.Test.YtiglkpgoakibaabLasts
import Derived.Lib.QuoteBits
namespace Go.Proofs.Ytiglkpgoakibaab
open Go.RowKit PTopRegrouped Go.Proofs.YtiglkpgoakibaabW.PrintWords

theorem ofInt64 (a : Nat) (ha : a < 2 ^ 62) : (BitVec.ofInt 64 (a : Int)).toNat = a := by
  rw [BitVec.toNat_ofInt]
  omega
theorem wrap_nat (n : Nat) (h : n < 2 ^ 62) : IntKind.i64.wrap (n : Int) = (n : Int) := by
  rw [IntKind.wrap_i64]
  omega
theorem bits_land (a b : Nat) (ha : a < 2 ^ 62) (hb : b < 2 ^ 62) : Go.bits .and .i64 (a : Int) (b : Int) = ((a &&& b : Nat) : Int) := by
  show IntKind.i64.wrap ((BitVec.ofInt 64 (a : Int) &&& BitVec.ofInt 64 (b : Int)).toNat : Int) = _
  rw [BitVec.toNat_and, ofInt64 a ha, ofInt64 b hb]
  exact wrap_nat _ (Nat.and_lt_two_pow _ hb)
theorem bits_lor (a b : Nat) (ha : a < 2 ^ 62) (hb : b < 2 ^ 62) : Go.bits .or .i64 (a : Int) (b : Int) = ((a ||| b : Nat) : Int) := by
  show IntKind.i64.wrap ((BitVec.ofInt 64 (a : Int) ||| BitVec.ofInt 64 (b : Int)).toNat : Int) = _
  rw [BitVec.toNat_or, ofInt64 a ha, ofInt64 b hb]
  exact wrap_nat _ (Nat.or_lt_two_pow ha hb)
theorem bits_lnot (a b : Nat) (ha : a < 2 ^ 62) (hb : b < 2 ^ 62) : Go.bits .andNot .i64 (a : Int) (b : Int) = ((a &&& (2 ^ 64 - 1 - b) : Nat) : Int) := by
  show IntKind.i64.wrap ((BitVec.ofInt 64 (a : Int) &&& ~~~BitVec.ofInt 64 (b : Int)).toNat : Int) = _
  rw [BitVec.toNat_and, BitVec.toNat_not, ofInt64 a ha, ofInt64 b hb]
  exact wrap_nat _ (by rw [Nat.and_comm]; exact Nat.and_lt_two_pow _ ha)

/-- Bit i. -/
def tb (v : Int) (i : Nat) : Bool := v.toNat.testBit i
/-- From 0 to 2^n - 1. -/
def Bd (n : Nat) (v : Int) : Prop := 0 ≤ v ∧ v < 2 ^ n
theorem two_pow_le {n : Nat} (hn : n ≤ 16) : (2 : Int) ^ n ≤ 65536 := by
  have := Nat.pow_le_pow_right (n := 2) (by omega) hn
  have h : ((2 ^ n : Nat) : Int) ≤ ((2 ^ 16 : Nat) : Int) := by exact_mod_cast this
  simpa using h
theorem Bd.nat {n : Nat} {v : Int} (h : Bd n v) (hn : n ≤ 16) : ∃ a : Nat, v = a ∧ a < 2 ^ n ∧ a < 2 ^ 62 := by
  obtain ⟨a, rfl⟩ := Int.eq_ofNat_of_zero_le h.1
  have h2 : a < 2 ^ n := by have := h.2; exact_mod_cast this
  have h3 := Nat.pow_le_pow_right (n := 2) (by omega) hn
  exact ⟨a, rfl, h2, by omega⟩
theorem Bd.mk_nat {n a : Nat} (h : a < 2 ^ n) : Bd n (a : Int) := ⟨by omega, by exact_mod_cast h⟩
theorem tb_nat (a i : Nat) : tb (a : Int) i = a.testBit i := rfl
theorem tb_out {n : Nat} {v : Int} (h : Bd n v) (hn : n ≤ 16) {i : Nat} (hi : n ≤ i) : tb v i = false := by
  obtain ⟨a, rfl, h1, _⟩ := h.nat hn
  rw [tb_nat]
  exact Nat.testBit_lt_two_pow (Nat.lt_of_lt_of_le h1 (Nat.pow_le_pow_right (by omega) hi))
theorem bd_ext {n : Nat} {u v : Int} (hu : Bd n u) (hv : Bd n v) (hn : n ≤ 16) (h : ∀ i, i < n → tb u i = tb v i) : u = v := by
  have hall : ∀ i, tb u i = tb v i := fun i => by
    rcases Nat.lt_or_ge i n with hi | hi
    · exact h i hi
    · rw [tb_out hu hn hi, tb_out hv hn hi]
  obtain ⟨a, rfl, _⟩ := hu.nat hn
  obtain ⟨b, rfl, _⟩ := hv.nat hn
  exact congrArg _ (Nat.eq_of_testBit_eq hall)
section
variable {n : Nat} {u v : Int}
theorem tb_and (hu : Bd n u) (hv : Bd n v) (hn : n ≤ 16) (i : Nat) : tb (Go.bits .and .i64 u v) i = (tb u i && tb v i) := by
  obtain ⟨a, rfl, _, ha⟩ := hu.nat hn
  obtain ⟨b, rfl, _, hb⟩ := hv.nat hn
  rw [bits_land a b ha hb, tb_nat, Nat.testBit_and]
  rfl
theorem bd_and (hu : Bd n u) (hv : Bd n v) (hn : n ≤ 16) : Bd n (Go.bits .and .i64 u v) := by
  obtain ⟨a, rfl, _, ha⟩ := hu.nat hn
  obtain ⟨b, rfl, hb', hb⟩ := hv.nat hn
  rw [bits_land a b ha hb]
  exact Bd.mk_nat (Nat.and_lt_two_pow _ hb')
theorem tb_or (hu : Bd n u) (hv : Bd n v) (hn : n ≤ 16) (i : Nat) : tb (Go.bits .or .i64 u v) i = (tb u i || tb v i) := by
  obtain ⟨a, rfl, _, ha⟩ := hu.nat hn
  obtain ⟨b, rfl, _, hb⟩ := hv.nat hn
  rw [bits_lor a b ha hb, tb_nat, Nat.testBit_or]
  rfl
theorem bd_or (hu : Bd n u) (hv : Bd n v) (hn : n ≤ 16) : Bd n (Go.bits .or .i64 u v) := by
  obtain ⟨a, rfl, ha', ha⟩ := hu.nat hn
  obtain ⟨b, rfl, hb', hb⟩ := hv.nat hn
  rw [bits_lor a b ha hb]
  exact Bd.mk_nat (Nat.or_lt_two_pow ha' hb')
theorem tb_not (hu : Bd n u) (hv : Bd n v) (hn : n ≤ 16) (i : Nat) : tb (Go.bits .andNot .i64 u v) i = (tb u i && !tb v i) := by
  obtain ⟨a, rfl, ha', ha⟩ := hu.nat hn
  obtain ⟨b, rfl, _, hb⟩ := hv.nat hn
  rw [bits_lnot a b ha hb, tb_nat, Nat.testBit_and]
  rcases Nat.lt_or_ge i 64 with hi | hi
  · have : (2 ^ 64 - 1 - b).testBit i = (decide (i < 64) && !b.testBit i) := by
      have h := Nat.testBit_two_pow_sub_succ (x := b) (n := 64) (by omega) i
      rw [← h]
      congr 1
      omega
    rw [this, decide_eq_true hi, Bool.true_and]
    rfl
  · have h1 : a.testBit i = false := Nat.testBit_lt_two_pow (Nat.lt_of_lt_of_le ha (Nat.pow_le_pow_right (by omega) (by omega)))
    rw [h1, Bool.false_and, tb_nat, h1, Bool.false_and]
theorem bd_not (hu : Bd n u) (hv : Bd n v) (hn : n ≤ 16) : Bd n (Go.bits .andNot .i64 u v) := by
  obtain ⟨a, rfl, ha', ha⟩ := hu.nat hn
  obtain ⟨b, rfl, _, hb⟩ := hv.nat hn
  rw [bits_lnot a b ha hb]
  exact Bd.mk_nat (by rw [Nat.and_comm]; exact Nat.and_lt_two_pow _ ha')
theorem bit_mod (hu : Bd n u) (hn : n ≤ 16) (i : Nat) : Go.bits .and .i64 (u / 2 ^ i) 1 = if tb u i then 1 else 0 := by
  obtain ⟨a, rfl, _, ha⟩ := hu.nat hn
  have h1 : ((a : Int) / 2 ^ i) = ((a / 2 ^ i : Nat) : Int) := by simp
  have h2 : a / 2 ^ i < 2 ^ 62 := Nat.lt_of_le_of_lt (Nat.div_le_self _ _) ha
  rw [h1]
  show Go.bits .and .i64 ((a / 2 ^ i : Nat) : Int) ((1 : Nat) : Int) = _
  rw [bits_land _ 1 h2 (by omega), Nat.and_one_is_mod, tb_nat, Nat.testBit_eq_decide_div_mod_eq]
  rcases Nat.mod_two_eq_zero_or_one (a / 2 ^ i) with h | h <;> simp [h]
theorem bit_one (hu : Bd n u) (hn : n ≤ 16) (i : Nat) : (Go.bits .and .i64 (u / 2 ^ i) 1 == 1) = tb u i := by
  rw [bit_mod hu hn]
  cases tb u i <;> rfl
theorem bit_zero (hu : Bd n u) (hn : n ≤ 16) (i : Nat) : (Go.bits .and .i64 (u / 2 ^ i) 1 == 0) = !tb u i := by
  rw [bit_mod hu hn]
  cases tb u i <;> rfl
theorem nz_iff (hu : Bd n u) (hn : n ≤ 16) : (u != 0) = true ↔ ∃ i, i < n ∧ tb u i = true := by
  rw [bne_iff_ne]
  constructor
  · intro h
    refine Classical.byContradiction fun hno => h ?_
    refine bd_ext hu ⟨by omega, ?_⟩ hn (fun i hi => ?_)
    · have := hu; exact Int.lt_of_le_of_lt this.1 this.2
    · have : tb (0 : Int) i = false := by simp [tb]
      rw [this]
      refine Bool.eq_false_iff.2 fun ht => hno ⟨i, hi, ht⟩
  · rintro ⟨i, _, ht⟩ rfl
    simp [tb] at ht
end
theorem tb_pow (k i : Nat) : tb ((2 : Int) ^ k) i = decide (k = i) := by
  have : ((2 : Int) ^ k) = ((2 ^ k : Nat) : Int) := by simp
  rw [this, tb_nat, Nat.testBit_two_pow]
theorem bd_pow {k n : Nat} (h : k < n) : Bd n ((2 : Int) ^ k) := by
  have : ((2 : Int) ^ k) = ((2 ^ k : Nat) : Int) := by simp
  rw [this]
  exact Bd.mk_nat (Nat.pow_lt_pow_right (by omega) h)
theorem bd_zero (n : Nat) : Bd n 0 := Bd.mk_nat (a := 0) (Nat.pow_pos (by omega))
theorem tb_zero (i : Nat) : tb 0 i = false := by simp [tb]
end Go.Proofs.Ytiglkpgoakibaab
namespace Go.Proofs.Ytiglkpgoakibaab
open Go.RowKit PTopRegrouped Go.Proofs.YtiglkpgoakibaabW.PrintWords

def rot (n x i : Nat) : Nat := (i + x) % n
theorem rot_lt {n x i : Nat} (hn : 0 < n) : rot n x i < n := Nat.mod_lt _ hn
theorem rot_if {n x i : Nat} (hx : x < n) (hi : i < n) : rot n x i = if i + x < n then i + x else i + x - n := by
  unfold rot
  split
  · exact Nat.mod_eq_of_lt (by assumption)
  · rw [Nat.mod_eq_sub_mod (by omega), Nat.mod_eq_of_lt (by omega)]
theorem rot_inj {n x i j : Nat} (hx : x < n) (hi : i < n) (hj : j < n) (h : rot n x i = rot n x j) : i = j := by
  rw [rot_if hx hi, rot_if hx hj] at h
  split at h <;> split at h <;> omega
theorem rot_surj {n x j : Nat} (hx : x < n) (hj : j < n) : ∃ i, i < n ∧ rot n x i = j := by
  by_cases h : x ≤ j
  · refine ⟨j - x, by omega, ?_⟩
    rw [rot_if hx (by omega), if_pos (by omega)]
    omega
  · refine ⟨j + n - x, by omega, ?_⟩
    rw [rot_if hx (by omega), if_neg (by omega)]
    omega
theorem around_eq {n x i : Nat} (hn : 0 < n) (h1 : n ≤ 1000) (h2 : x ≤ 1000) (h3 : i ≤ 1000) : ignitiontop_around.f i x n = some ((rot n x i : Nat) : Int) := by
  unfold ignitiontop_around.f
  have hw : wrap64 ((i : Int) + x) = ((i + x : Nat) : Int) := by unfold wrap64; omega
  rw [if_neg (by omega), hw, Int.tmod_eq_emod_of_nonneg (by omega)]
  unfold rot
  simp

/-- r is the set v, turned on. -/
structure IsTurn (n x : Nat) (v r : Int) : Prop where
  bd : Bd n r
  at_ : ∀ i, i < n → tb r (rot n x i) = tb v i
theorem IsTurn.eq {n x : Nat} {v r r' : Int} (hx : x < n) (hn : n ≤ 16) (h : IsTurn n x v r) (hb : Bd n r') (h' : ∀ i, i < n → tb r' (rot n x i) = tb v i) : r = r' := by
  refine bd_ext h.bd hb hn (fun j hj => ?_)
  obtain ⟨i, hi, rfl⟩ := rot_surj hx hj
  rw [h.at_ i hi, h' i hi]

theorem shl_one (i : Nat) (h : i ≤ 16) : shl .i64 1 ((i : Nat) : Int) = 2 ^ i := by
  unfold shl
  have h1 : min ((i : Nat) : Int).toNat IntKind.i64.bits = i := by simp [IntKind.bits]; omega
  have h2 := two_pow_le h
  have h3 : (0 : Int) < 2 ^ i := by have := Nat.pow_pos (n := i) (show 0 < 2 by omega); exact_mod_cast this
  rw [h1, Int.one_mul, IntKind.wrap_i64]
  omega
theorem shr_eq (v : Int) (i : Nat) (h : i ≤ 63) : shr .i64 v ((i : Nat) : Int) = v / 2 ^ i := by
  unfold shr
  have h1 : min ((i : Nat) : Int).toNat IntKind.i64.bits = i := by simp [IntKind.bits]; omega
  rw [h1]
theorem wrapu_nat (i : Nat) (h : i ≤ 1000) : IntKind.u64.wrap (i : Int) = i := by
  simp [IntKind.wrap, IntKind.bits, IntKind.signed]
  omega

theorem aroundBits_l0 {n x : Nat} (hx : x < n) (hn : n ≤ 16) (v : Int) (hv : Bd 16 v) (m : Nat) : ∀ (i : Nat) (out : Int), i + m = n → Bd n out → (∀ j, j < i → tb out (rot n x j) = tb v j) → (∀ j, i ≤ j → j < n → tb out (rot n x j) = false) →
    ∃ r, (∀ k, m + 1 ≤ k → ignitiontop_aroundBits.l0 k v x n out i = some r) ∧ IsTurn n x v r := by
  induction m with
  | zero =>
    intro i out hi hb h1 h2
    refine ⟨out, fun k hk => ?_, hb, fun j hj => h1 j (by omega)⟩
    obtain ⟨k, rfl⟩ : ∃ k', k = k' + 1 := ⟨k - 1, by omega⟩
    rw [ignitiontop_aroundBits.l0, if_neg (by omega)]
  | succ m ih =>
    intro i out hi hb h1 h2
    have hw : wrap64 ((i : Int) + 1) = ((i + 1 : Nat) : Int) := by unfold wrap64; omega
    have hrl : rot n x i < n := rot_lt (by omega)
    cases hc : tb v i
    · obtain ⟨r, hr, ht⟩ := ih (i + 1) out (by omega) hb (fun j hj => by
        rcases Nat.lt_or_ge j i with h | h
        · exact h1 j h
        · obtain rfl : j = i := by omega
          rw [h2 j (by omega) (by omega), hc]) (fun j hj hjn => h2 j (by omega) hjn)
      refine ⟨r, fun k hk => ?_, ht⟩
      obtain ⟨k, rfl⟩ : ∃ k', k = k' + 1 := ⟨k - 1, by omega⟩
      rw [ignitiontop_aroundBits.l0, if_pos (by omega), wrapu_nat i (by omega), if_pos (by omega), shr_eq v i (by omega), bit_mod hv (by omega), hc, if_neg (by decide), hw]
      exact hr k (by omega)
    · have hb' := bd_or hb (bd_pow hrl) hn
      obtain ⟨r, hr, ht⟩ := ih (i + 1) _ (by omega) hb' (fun j hj => by
        rw [tb_or hb (bd_pow hrl) hn, tb_pow]
        rcases Nat.lt_or_ge j i with h | h
        · have hne : ¬ rot n x i = rot n x j := fun e => by have := rot_inj hx (by omega) (by omega) e; omega
          rw [decide_eq_false hne, Bool.or_false, h1 j h]
        · obtain rfl : j = i := by omega
          rw [decide_eq_true rfl, Bool.or_true, hc]) (fun j hj hjn => by
        have hne : ¬ rot n x i = rot n x j := fun e => by have := rot_inj hx (by omega) hjn e; omega
        rw [tb_or hb (bd_pow hrl) hn, tb_pow, decide_eq_false hne, Bool.or_false, h2 j (by omega) hjn])
      refine ⟨r, fun k hk => ?_, ht⟩
      obtain ⟨k, rfl⟩ : ∃ k', k = k' + 1 := ⟨k - 1, by omega⟩
      rw [ignitiontop_aroundBits.l0, if_pos (by omega), wrapu_nat i (by omega), if_pos (by omega), shr_eq v i (by omega), bit_mod hv (by omega), hc, if_pos (by decide), around_eq (by omega) (by omega) (by omega) (by omega), Option.bind_some, wrapu_nat _ (by omega), if_pos (by omega), shl_one _ (by omega), hw]
      exact hr k (by omega)
theorem aroundBits_ok {n x : Nat} (hx : x < n) (hn : n ≤ 16) (v : Int) (hv : Bd 16 v) : ∃ r, ignitiontop_aroundBits.f (n + 1) v x n = some r ∧ IsTurn n x v r := by
  obtain ⟨r, hr, ht⟩ := aroundBits_l0 hx hn v hv n 0 0 (by omega) (bd_zero n) (fun j hj => by omega) (fun j _ _ => tb_zero _)
  exact ⟨r, hr (n + 1) (by omega), ht⟩

theorem aroundInts_l0 {x : Nat} (l : List Int) (hx : x < l.length) (hn : l.length ≤ 1000) (m : Nat) : ∀ (i : Nat) (out : List Int), i + m = l.length → out.length = l.length → (∀ j, j < i → out[rot l.length x j]? = l[j]?) →
    ∃ r, (∀ k, m + 1 ≤ k → ignitiontop_aroundInts.l0 k l x out i = some r) ∧ r.length = l.length ∧ ∀ j, j < l.length → r[rot l.length x j]? = l[j]? := by
  induction m with
  | zero =>
    intro i out hi hl h1
    refine ⟨out, fun k hk => ?_, hl, fun j hj => h1 j (by omega)⟩
    obtain ⟨k, rfl⟩ : ∃ k', k = k' + 1 := ⟨k - 1, by omega⟩
    rw [ignitiontop_aroundInts.l0, if_neg (by omega)]
  | succ m ih =>
    intro i out hi hl h1
    have hw : wrap64 ((i : Int) + 1) = ((i + 1 : Nat) : Int) := by unfold wrap64; omega
    have hrl : rot l.length x i < l.length := rot_lt (by omega)
    have hil : i < l.length := by omega
    have hrd : rd l (i : Int) = l[i] := by unfold rd; simp [hil]
    obtain ⟨r, hr, ht⟩ := ih (i + 1) (out.set (rot l.length x i) l[i]) (by omega) (by rw [List.length_set]; exact hl) (fun j hj => by
      rcases Nat.lt_or_ge j i with h | h
      · have hne : ¬ rot l.length x i = rot l.length x j := fun e => by have := rot_inj hx (by omega) (by omega) e; omega
        rw [List.getElem?_set_ne hne, h1 j h]
      · obtain rfl : j = i := by omega
        rw [List.getElem?_set_self (by omega), List.getElem?_eq_getElem hil])
    refine ⟨r, fun k hk => ?_, ht⟩
    obtain ⟨k, rfl⟩ : ∃ k', k = k' + 1 := ⟨k - 1, by omega⟩
    rw [ignitiontop_aroundInts.l0, if_pos (by omega), around_eq (by omega) hn (by omega) (by omega), Option.bind_some, if_pos (by omega), if_pos (by omega), if_pos (by omega), hw, hrd, Int.toNat_natCast]
    exact hr k (by omega)
theorem aroundInts_ok {x : Nat} (l : List Int) (hx : x < l.length) (hn : l.length ≤ 1000) : ∃ r, ignitiontop_aroundInts.f (l.length + 1) l x = some r ∧ r.length = l.length ∧ ∀ j, j < l.length → r[rot l.length x j]? = l[j]? := by
  obtain ⟨r, hr, ht⟩ := aroundInts_l0 l hx hn l.length 0 (List.replicate l.length 0) (by omega) (by simp) (fun j hj => by omega)
  refine ⟨r, ?_, ht⟩
  unfold ignitiontop_aroundInts.f
  rw [if_pos (by omega), Int.toNat_natCast, if_pos (by omega)]
  exact hr _ (by omega)
end Go.Proofs.Ytiglkpgoakibaab
namespace Go.Proofs.Ytiglkpgoakibaab
open Go.RowKit PTopRegrouped Go.Proofs.YtiglkpgoakibaabW.PrintWords

/-- b is the node a, its groups turned on by y. -/
structure NdT (G y : Nat) (a b : Nd) : Prop where
  f1 : b.s.f1 = a.s.f1
  f2 : b.s.f2 = a.s.f2
  f3 : b.s.f3 = a.s.f3
  f4 : b.s.f4 = a.s.f4
  gr : IsTurn G y a.s.f0 b.s.f0
  ga : Bd G a.s.f0
  asks : IsTurn G y a.asks b.asks
  aa : Bd G a.asks
  tok : b.tok = a.tok
  aw : b.aw = a.aw
  la : a.tm.length = 9
  lb : b.tm.length = 9
  tmg : ∀ g, g < G → b.tm[rot G y g]? = a.tm[g]?
  tm8 : b.tm[8]? = a.tm[8]?
  ta0 : ∀ g, G ≤ g → g < 8 → a.tm[g]? = some 0
  tb0 : ∀ g, G ≤ g → g < 8 → b.tm[g]? = some 0
/-- bs are the nodes as, turned on by x. -/
structure NsT (n x G y : Nat) (as' bs : List Nd) : Prop where
  la : as'.length = n
  lb : bs.length = n
  at_ : ∀ i a, as'[i]? = some a → ∃ b, bs[rot n x i]? = some b ∧ NdT G y a b
section
variable {n x G y : Nat} {as' bs : List Nd}
theorem NsT.set (hx : 0 < n → x < n) (h : NsT n x G y as' bs) {i : Nat} (hi : i < n) {a' b' : Nd} (hT : NdT G y a' b') : NsT n x G y (as'.set i a') (bs.set (rot n x i) b') where
  la := by rw [List.length_set]; exact h.la
  lb := by rw [List.length_set]; exact h.lb
  at_ := fun j a hj => by
    have hjl := (List.getElem?_eq_some_iff.1 hj).1
    rw [List.length_set, h.la] at hjl
    have hrl : rot n x i < bs.length := by rw [h.lb]; exact rot_lt (by omega)
    by_cases he : j = i
    · subst he
      rw [List.getElem?_set_self (by rw [h.la]; exact hi)] at hj
      cases hj
      exact ⟨b', List.getElem?_set_self hrl, hT⟩
    · rw [List.getElem?_set_ne (fun e => he e.symm)] at hj
      obtain ⟨b, hb, ht⟩ := h.at_ j a hj
      refine ⟨b, ?_, ht⟩
      rw [List.getElem?_set_ne (fun e => he (rot_inj (hx (by omega)) hjl hi e.symm))]
      exact hb
theorem NsT.map (h : NsT n x G y as' bs) {f : Nd → Nd} (hf : ∀ a b, NdT G y a b → NdT G y (f a) (f b)) : NsT n x G y (as'.map f) (bs.map f) where
  la := by rw [List.length_map]; exact h.la
  lb := by rw [List.length_map]; exact h.lb
  at_ := fun j a hj => by
    rw [List.getElem?_map] at hj
    obtain ⟨a0, h0, rfl⟩ := Option.map_eq_some_iff.1 hj
    obtain ⟨b, hb, ht⟩ := h.at_ j a0 h0
    exact ⟨f b, by rw [List.getElem?_map, hb]; rfl, hf _ _ ht⟩
end

/-- A nudge, turned on. -/
def tuNg (n x G y : Nat) (q : Ng) : Ng where
  at_ := q.at_
  kind := q.kind
  node := if 0 ≤ q.node ∧ q.node < n then ((rot n x q.node.toNat : Nat) : Int) else q.node
  arg := if (q.kind = 1 ∨ q.kind = 2) ∧ 0 ≤ q.arg ∧ q.arg < G then ((rot G y q.arg.toNat : Nat) : Int) else if q.kind = 4 ∧ 0 ≤ q.arg ∧ q.arg < n then ((rot n x q.arg.toNat : Nat) : Int) else q.arg
theorem tu_sel (n x G y : Nat) (t : Int) (ks : List Int) (ls : List Ng) : (ls.map (tuNg n x G y)).filter (ngSel t ks) = (ls.filter (ngSel t ks)).map (tuNg n x G y) := by
  rw [List.filter_map]
  rfl

/-- A nudge as a check lets it in. -/
structure NgR (n G : Nat) (q : Ng) : Prop where
  n0 : 0 ≤ q.node
  n1 : q.node < n
  ask : q.kind = 1 ∨ q.kind = 2 → 0 ≤ q.arg ∧ q.arg < G
  loss : q.kind = 4 → 0 ≤ q.arg ∧ q.arg < n
theorem NgR.node {n x G y : Nat} {q : Ng} (h : NgR n G q) : (tuNg n x G y q).node.toNat = rot n x q.node.toNat := by
  unfold tuNg
  dsimp only
  rw [if_pos ⟨h.n0, h.n1⟩, Int.toNat_natCast]

theorem askV_turn {G y : Nat} (hG : G ≤ 16) (hy : 0 < G → y < G) {a b : Int} (ha : Bd G a) (ht : IsTurn G y a b) {q : Ng} (hk : q.kind = 1 ∨ q.kind = 2) (h0 : 0 ≤ q.arg) (h1 : q.arg < G) (n x : Nat) : IsTurn G y (askV a q) (askV b (tuNg n x G y q)) ∧ Bd G (askV a q) := by
  obtain ⟨j, hj⟩ := Int.eq_ofNat_of_zero_le h0
  have hjG : j < G := by omega
  have hyG := hy (by omega)
  have harg : (tuNg n x G y q).arg = ((rot G y j : Nat) : Int) := by
    unfold tuNg
    dsimp only
    rw [if_pos ⟨hk, h0, h1⟩, hj, Int.toNat_natCast]
  have hrl : rot G y j < G := rot_lt (by omega)
  have p1 := bd_pow hjG
  have p2 := bd_pow hrl
  have o1 := bd_or ha p1 hG
  have o2 := bd_or ht.bd p2 hG
  unfold askV
  rw [harg, hj, Int.toNat_natCast, Int.toNat_natCast]
  have hkk : (tuNg n x G y q).kind = q.kind := rfl
  rw [hkk]
  have hdec : ∀ i, i < G → decide (rot G y j = rot G y i) = decide (j = i) := fun i hi => by
    by_cases he : j = i
    · subst he; simp
    · rw [decide_eq_false he, decide_eq_false (fun e => he (rot_inj hyG hjG hi e))]
  split
  · refine ⟨⟨bd_not o2 p2 hG, fun i hi => ?_⟩, bd_not o1 p1 hG⟩
    rw [tb_not o2 p2 hG, tb_or ht.bd p2 hG, tb_not o1 p1 hG, tb_or ha p1 hG, tb_pow, tb_pow, ht.at_ i hi, hdec i hi]
  · refine ⟨⟨o2, fun i hi => ?_⟩, o1⟩
    rw [tb_or ht.bd p2 hG, tb_or ha p1 hG, tb_pow, tb_pow, ht.at_ i hi, hdec i hi]

theorem askTo_turn {n x G y : Nat} (hG : G ≤ 16) (hx : 0 < n → x < n) (hy : 0 < G → y < G) (xs : List Ng) : ∀ {as' bs : List Nd}, NsT n x G y as' bs → (∀ q ∈ xs, NgR n G q ∧ (q.kind = 1 ∨ q.kind = 2)) → NsT n x G y (askTo as' xs) (askTo bs (xs.map (tuNg n x G y))) := by
  induction xs with
  | nil => intro as' bs h _; exact h
  | cons q xs ih =>
    intro as' bs h hq
    refine ih (as' := askStep as' q) (bs := askStep bs (tuNg n x G y q)) ?_ (fun r hr => hq r (List.mem_cons_of_mem _ hr))
    obtain ⟨hr, hk⟩ := hq q List.mem_cons_self
    have hn0 := hr.n0
    have hn1 := hr.n1
    have hil : q.node.toNat < as'.length := by rw [h.la]; omega
    obtain ⟨b, hb, ht⟩ := h.at_ q.node.toNat _ (List.getElem?_eq_getElem hil)
    obtain ⟨h0, h1⟩ := hr.ask hk
    unfold askStep
    rw [List.getElem?_eq_getElem hil, hr.node, hb]
    obtain ⟨t1, t2⟩ := askV_turn hG hy ht.aa ht.asks hk h0 h1 n x
    exact h.set hx (by omega) ⟨ht.f1, ht.f2, ht.f3, ht.f4, ht.gr, ht.ga, t1, t2, ht.tok, ht.aw, ht.la, ht.lb, ht.tmg, ht.tm8, ht.ta0, ht.tb0⟩

theorem refNd_turn {G y : Nat} (t : Int) {a b : Nd} (h : NdT G y a b) : NdT G y (refNd t a) (refNd t b) := by
  unfold refNd
  rw [h.f4]
  split
  · exact ⟨h.f1, h.f2, h.f3, h.f4, h.gr, h.ga, h.asks, h.aa, by show min (b.tok + 1) b.s.f3 = min (a.tok + 1) a.s.f3; rw [h.tok, h.f3], h.aw, h.la, h.lb, h.tmg, h.tm8, h.ta0, h.tb0⟩
  · exact h
end Go.Proofs.Ytiglkpgoakibaab
namespace Go.Proofs.Ytiglkpgoakibaab
open Go.RowKit PTopRegrouped Go.Proofs.YtiglkpgoakibaabW.PrintWords

theorem noiNd_turn {G y : Nat} (hG : G ≤ 8) (H : Int) {a b : Nd} (h : NdT G y a b) : NdT G y (noiNd H a) (noiNd H b) := by
  have h8 : b.tm.getD 8 0 = a.tm.getD 8 0 := by rw [List.getD_eq_getElem?_getD, List.getD_eq_getElem?_getD, h.tm8]
  unfold noiNd
  rw [h.aw, h.tok, h8]
  split
  · refine ⟨h.f1, h.f2, h.f3, h.f4, h.gr, h.ga, h.asks, h.aa, rfl, rfl, by simpa using h.la, by simpa using h.lb, fun g hg => ?_, ?_, fun g h1 h2 => ?_, fun g h1 h2 => ?_⟩
    · have hr : rot G y g < G := rot_lt (by omega)
      show (b.tm.set 8 H)[rot G y g]? = (a.tm.set 8 H)[g]?
      rw [List.getElem?_set_ne (by omega), List.getElem?_set_ne (by omega)]
      exact h.tmg g hg
    · show (b.tm.set 8 H)[8]? = (a.tm.set 8 H)[8]?
      rw [List.getElem?_set_self (by rw [h.lb]; omega), List.getElem?_set_self (by rw [h.la]; omega)]
    · show (a.tm.set 8 H)[g]? = some 0
      rw [List.getElem?_set_ne (by omega)]
      exact h.ta0 g h1 h2
    · show (b.tm.set 8 H)[g]? = some 0
      rw [List.getElem?_set_ne (by omega)]
      exact h.tb0 g h1 h2
  · exact h
theorem noiTo_turn {n x G y : Nat} (hG : G ≤ 8) (hx : 0 < n → x < n) (H : Int) (xs : List Ng) : ∀ {as' bs : List Nd}, NsT n x G y as' bs → (∀ q ∈ xs, NgR n G q) → NsT n x G y (noiTo H as' xs) (noiTo H bs (xs.map (tuNg n x G y))) := by
  induction xs with
  | nil => intro as' bs h _; exact h
  | cons q xs ih =>
    intro as' bs h hq
    refine ih (as' := noiStep H as' q) (bs := noiStep H bs (tuNg n x G y q)) ?_ (fun r hr => hq r (List.mem_cons_of_mem _ hr))
    have hr := hq q List.mem_cons_self
    have hn0 := hr.n0
    have hn1 := hr.n1
    have hil : q.node.toNat < as'.length := by rw [h.la]; omega
    obtain ⟨b, hb, ht⟩ := h.at_ q.node.toNat _ (List.getElem?_eq_getElem hil)
    unfold noiStep
    rw [List.getElem?_eq_getElem hil, hr.node, hb]
    exact h.set hx (by omega) (noiNd_turn hG H ht)

/-! ### sending -/
theorem sendG_tm (l : Bool) (H a : Int) (x : Nd) (k : Nat) (hk : k ≤ 8) (hl : x.tm.length = 9) (g : Nat) : (sendG l H a x k).tm[g]? = if g < k ∧ l = false ∧ hit a x.s.f0 g = true then some H else x.tm[g]? := by
  induction k with
  | zero => rw [sendG, if_neg (by omega)]
  | succ k ih =>
    have ih := ih (by omega)
    have hlen := sendG_nine l H a x k hl
    unfold sendG
    by_cases hc : l = false ∧ hit a x.s.f0 k = true
    · have hc' : (!l && hit a x.s.f0 k) = true := by rw [hc.1, hc.2]; rfl
      rw [if_pos hc']
      show ((sendG l H a x k).tm.set k H)[g]? = _
      by_cases hg : g = k
      · subst hg
        rw [List.getElem?_set_self (by omega), if_pos ⟨by omega, hc⟩]
      · rw [List.getElem?_set_ne (fun e => hg e.symm), ih]
        by_cases hgk : g < k ∧ l = false ∧ hit a x.s.f0 g = true
        · rw [if_pos hgk, if_pos ⟨by omega, hgk.2⟩]
        · rw [if_neg hgk, if_neg (fun h => hgk ⟨by omega, h.2⟩)]
    · have hc' : ¬ (!l && hit a x.s.f0 k) = true := fun h => hc (by simpa using h)
      rw [if_neg hc', ih]
      by_cases hgk : g < k ∧ l = false ∧ hit a x.s.f0 g = true
      · rw [if_pos hgk, if_pos ⟨by omega, hgk.2⟩]
      · rw [if_neg hgk, if_neg (fun h => hgk ⟨by
          have h1 := h.1
          rcases Nat.lt_or_ge g k with h' | h'
          · exact h'
          · obtain rfl : g = k := by omega
            exact absurd h.2 hc, h.2⟩)]
theorem sendG_tok (l : Bool) (H a : Int) (x : Nd) (k : Nat) : (sendG l H a x k).tok = x.tok ∧ (sendG l H a x k).aw = x.aw := by
  induction k with
  | zero => exact ⟨rfl, rfl⟩
  | succ k ih =>
    unfold sendG
    split
    · exact ih
    · exact ih
theorem row_get (lo : List Bool) (H a : Int) (G fr : Nat) (ns : List Nd) (k i : Nat) : (rowTo' lo H a G fr ns k)[i]? = (ns[i]?).map (fun x => if i < k then sendG (lo.getD (fr * 16 + i) false) H a x G else x) := by
  induction k with
  | zero => rw [rowTo']; simp
  | succ k ih =>
    have hk : (rowTo' lo H a G fr ns k)[k]? = ns[k]? := by
      have : ∀ i, (rowTo' lo H a G fr ns k)[i]? = (ns[i]?).map (fun x => if i < k then sendG (lo.getD (fr * 16 + i) false) H a x G else x) → i = k → (rowTo' lo H a G fr ns k)[k]? = ns[k]? := fun i h e => by subst e; rw [h]; simp
      by_cases hik : i = k
      · exact this i ih hik
      · have hgen : ∀ (j : Nat), (rowTo' lo H a G fr ns j)[k]? = if j ≤ k then ns[k]? else (rowTo' lo H a G fr ns j)[k]? := fun j => by
          induction j with
          | zero => rw [rowTo', if_pos (by omega)]
          | succ j ihj =>
            by_cases hj : j + 1 ≤ k
            · rw [if_pos hj, rowTo']
              split
              · rw [List.getElem?_set_ne (by omega), ihj, if_pos (by omega)]
              · rw [ihj, if_pos (by omega)]
            · rw [if_neg hj]
        rw [hgen k, if_pos (Nat.le_refl _)]
    unfold rowTo'
    rw [hk]
    cases hnk : ns[k]? with
    | none =>
      dsimp only
      rw [ih]
      cases hni : ns[i]? with
      | none => rfl
      | some xi =>
        have hne : i ≠ k := fun e => by rw [e, hnk] at hni; cases hni
        by_cases hlt : i < k
        · simp [hlt, Nat.lt_succ_of_lt hlt]
        · have : ¬ i < k + 1 := by omega
          simp [hlt, this]
    | some xk =>
      dsimp only
      by_cases he : i = k
      · subst he
        have hlt2 : i < (rowTo' lo H a G fr ns i).length := by
          have := (List.getElem?_eq_some_iff.1 (hk.trans hnk)).1
          exact this
        rw [List.getElem?_set_self hlt2, hnk]
        simp
      · rw [List.getElem?_set_ne (fun e => he e.symm), ih]
        cases ns[i]? with
        | none => rfl
        | some xi =>
          by_cases hlt : i < k
          · simp [hlt, Nat.lt_succ_of_lt hlt]
          · have : ¬ i < k + 1 := by omega
            simp [hlt, this]

/-- Node i when the first k nodes have sent. -/
def sendAll (lo : List Bool) (H : Int) (G : Nat) (ns : List Nd) (i : Nat) (x : Nd) : Nat → Nd
  | 0 => x
  | k + 1 => match ns[k]? with
    | some f => sendG (lo.getD (k * 16 + i) false) H f.asks (sendAll lo H G ns i x k) G
    | none => sendAll lo H G ns i x k
theorem sendAll_keep (lo : List Bool) (H : Int) (G : Nat) (ns : List Nd) (i : Nat) (x : Nd) (k : Nat) : (sendAll lo H G ns i x k).s = x.s ∧ (sendAll lo H G ns i x k).asks = x.asks ∧ (sendAll lo H G ns i x k).tok = x.tok ∧ (sendAll lo H G ns i x k).aw = x.aw ∧ (x.tm.length = 9 → (sendAll lo H G ns i x k).tm.length = 9) := by
  induction k with
  | zero => exact ⟨rfl, rfl, rfl, rfl, id⟩
  | succ k ih =>
    unfold sendAll
    split
    · obtain ⟨h1, h2, h3, h4, h5⟩ := ih
      exact ⟨(sendG_s _ _ _ _ _).trans h1, (sendG_asks _ _ _ _ _).trans h2, (sendG_tok _ _ _ _ _).1.trans h3, (sendG_tok _ _ _ _ _).2.trans h4, fun h => sendG_nine _ _ _ _ _ (h5 h)⟩
    · exact ih
theorem send_get (lo : List Bool) (H : Int) (G : Nat) (ns : List Nd) (k i : Nat) : (sendTo lo H G ns k)[i]? = (ns[i]?).map (fun x => sendAll lo H G ns i x k) := by
  induction k generalizing i with
  | zero => rw [sendTo]; simp [sendAll]
  | succ k ih =>
    unfold sendTo
    rw [ih k]
    cases hk : ns[k]? with
    | none =>
      simp only [Option.map_none]
      rw [ih i]
      simp [sendAll, hk]
    | some f =>
      simp only [Option.map_some]
      rw [row_get, ih i]
      cases hi : ns[i]? with
      | none => rfl
      | some x =>
        have hlt := (List.getElem?_eq_some_iff.1 hi).1
        simp only [Option.map_some, sendAll, hk]
        rw [if_pos hlt, (sendAll_keep lo H G ns k f k).2.1]
theorem sendAll_tm (lo : List Bool) (H : Int) (G : Nat) (hG : G ≤ 8) (ns : List Nd) (i : Nat) (x : Nd) (hl : x.tm.length = 9) (k : Nat) (g : Nat) :
    ((∃ f nd, f < k ∧ ns[f]? = some nd ∧ g < G ∧ lo.getD (f * 16 + i) false = false ∧ hit nd.asks x.s.f0 g = true) → (sendAll lo H G ns i x k).tm[g]? = some H) ∧
    ((¬ ∃ f nd, f < k ∧ ns[f]? = some nd ∧ g < G ∧ lo.getD (f * 16 + i) false = false ∧ hit nd.asks x.s.f0 g = true) → (sendAll lo H G ns i x k).tm[g]? = x.tm[g]?) := by
  induction k with
  | zero => exact ⟨fun ⟨f, _, h, _⟩ => by omega, fun _ => rfl⟩
  | succ k ih =>
    have hkeep := sendAll_keep lo H G ns i x k
    cases hk : ns[k]? with
    | none =>
      have e : sendAll lo H G ns i x (k + 1) = sendAll lo H G ns i x k := by simp [sendAll, hk]
      rw [e]
      refine ⟨fun ⟨f, nd, h1, h2, h3⟩ => ih.1 ⟨f, nd, ?_, h2, h3⟩, fun h => ih.2 (fun ⟨f, nd, h1, h2⟩ => h ⟨f, nd, by omega, h2⟩)⟩
      rcases Nat.lt_or_ge f k with h | h
      · exact h
      · obtain rfl : f = k := by omega
        rw [hk] at h2; cases h2
    | some fd =>
      have e : sendAll lo H G ns i x (k + 1) = sendG (lo.getD (k * 16 + i) false) H fd.asks (sendAll lo H G ns i x k) G := by simp [sendAll, hk]
      rw [e, sendG_tm _ _ _ _ _ hG (hkeep.2.2.2.2 hl) g, hkeep.1]
      by_cases hc : g < G ∧ lo.getD (k * 16 + i) false = false ∧ hit fd.asks x.s.f0 g = true
      · rw [if_pos hc]
        exact ⟨fun _ => rfl, fun h => absurd ⟨k, fd, by omega, hk, hc⟩ h⟩
      · rw [if_neg hc]
        refine ⟨fun ⟨f, nd, h1, h2, h3⟩ => ih.1 ⟨f, nd, ?_, h2, h3⟩, fun h => ih.2 (fun ⟨f, nd, h1, h2⟩ => h ⟨f, nd, by omega, h2⟩)⟩
        rcases Nat.lt_or_ge f k with h | h
        · exact h
        · obtain rfl : f = k := by omega
          rw [hk] at h2; cases h2; exact absurd h3 hc
theorem hit_iff {n : Nat} {u v : Int} (hu : Bd n u) (hv : Bd n v) (hn : n ≤ 16) (g : Nat) : hit u v g = (tb u g && tb v g) := by
  unfold hit
  rw [bit_one (bd_and hu hv hn) hn, tb_and hu hv hn]

/-! ### who does not hear whom -/
theorem lost_any (xs : List Ng) (i : Nat) : ∀ lo : List Bool, lo.length = 256 → i < 256 → (xs.foldl lostStep lo).getD i false = (lo.getD i false || xs.any (fun q => q.node.toNat * 16 + q.arg.toNat == i)) := by
  induction xs with
  | nil => intro lo _ _; simp
  | cons q xs ih =>
    intro lo hl hi
    rw [List.foldl_cons, ih _ (by simp [lostStep, hl]) hi, List.any_cons, ← Bool.or_assoc]
    congr 1
    unfold lostStep
    rw [List.getD_eq_getElem?_getD, List.getD_eq_getElem?_getD]
    by_cases he : q.node.toNat * 16 + q.arg.toNat = i
    · subst he
      rw [List.getElem?_set_self (by omega)]
      simp
    · rw [List.getElem?_set_ne he]
      have : (q.node.toNat * 16 + q.arg.toNat == i) = false := by simpa using he
      rw [this, Bool.or_false]
theorem lost_eq (xs : List Ng) (i : Nat) (hi : i < 256) : (lostTo xs).getD i false = xs.any (fun q => q.node.toNat * 16 + q.arg.toNat == i) := by
  unfold lostTo
  rw [lost_any xs i _ List.length_replicate hi]
  rw [List.getD_eq_getElem?_getD, List.getElem?_replicate]
  rw [if_pos hi, Option.getD_some, Bool.false_or]
theorem lost_turn {n x G y : Nat} (hn : n ≤ 16) (hx : 0 < n → x < n) (xs : List Ng) (hq : ∀ q ∈ xs, NgR n G q ∧ q.kind = 4) {f i : Nat} (hf : f < n) (hi : i < n) :
    (lostTo (xs.map (tuNg n x G y))).getD (rot n x f * 16 + rot n x i) false = (lostTo xs).getD (f * 16 + i) false := by
  have hxn := hx (by omega)
  have h1 : rot n x f < n := rot_lt (by omega)
  have h2 : rot n x i < n := rot_lt (by omega)
  rw [lost_eq _ _ (by omega), lost_eq _ _ (by omega), List.any_map]
  refine Bool.eq_iff_iff.2 ?_
  rw [List.any_eq_true, List.any_eq_true]
  have key : ∀ q ∈ xs, ((fun q : Ng => q.node.toNat * 16 + q.arg.toNat == rot n x f * 16 + rot n x i) (tuNg n x G y q)) = (q.node.toNat * 16 + q.arg.toNat == f * 16 + i) := fun q hm => by
    obtain ⟨hr, hk⟩ := hq q hm
    have a0 := hr.n0
    have a1 := hr.n1
    obtain ⟨b0, b1⟩ := hr.loss hk
    have harg : (tuNg n x G y q).arg.toNat = rot n x q.arg.toNat := by
      unfold tuNg
      dsimp only
      rw [if_neg (by omega), if_pos ⟨hk, b0, b1⟩, Int.toNat_natCast]
    have c1 : rot n x q.node.toNat < n := rot_lt (by omega)
    have c2 : rot n x q.arg.toNat < n := rot_lt (by omega)
    show ((tuNg n x G y q).node.toNat * 16 + (tuNg n x G y q).arg.toNat == rot n x f * 16 + rot n x i) = _
    rw [hr.node, harg]
    by_cases he : q.node.toNat = f ∧ q.arg.toNat = i
    · rw [he.1, he.2]; simp
    · have e1 : (q.node.toNat * 16 + q.arg.toNat == f * 16 + i) = false := by
        rw [beq_eq_false_iff_ne]; omega
      have e2 : (rot n x q.node.toNat * 16 + rot n x q.arg.toNat == rot n x f * 16 + rot n x i) = false := by
        rw [beq_eq_false_iff_ne]
        intro h
        have h3 : rot n x q.node.toNat = rot n x f := by omega
        have h4 : rot n x q.arg.toNat = rot n x i := by omega
        exact he ⟨rot_inj hxn (by omega) hf h3, rot_inj hxn (by omega) hi h4⟩
      rw [e1, e2]
  constructor
  · rintro ⟨q, hm, h⟩; exact ⟨q, hm, by rw [← key q hm]; exact h⟩
  · rintro ⟨q, hm, h⟩; exact ⟨q, hm, by show ((fun q : Ng => q.node.toNat * 16 + q.arg.toNat == rot n x f * 16 + rot n x i) (tuNg n x G y q)) = true; rw [key q hm]; exact h⟩

theorem sendTo_turn {n x G y : Nat} (hn : n ≤ 16) (hG : G ≤ 8) (hx : 0 < n → x < n) (hy : 0 < G → y < G) (H : Int) (xs : List Ng) {as' bs : List Nd} (h : NsT n x G y as' bs) (hq : ∀ q ∈ xs, NgR n G q ∧ q.kind = 4) :
    NsT n x G y (sendTo (lostTo xs) H G as' as'.length) (sendTo (lostTo (xs.map (tuNg n x G y))) H G bs bs.length) where
  la := by rw [sendTo_length]; exact h.la
  lb := by rw [sendTo_length]; exact h.lb
  at_ := fun i a' hi => by
    rw [send_get] at hi
    obtain ⟨a, ha, rfl⟩ := Option.map_eq_some_iff.1 hi
    obtain ⟨b, hb, ht⟩ := h.at_ i a ha
    have hil : i < n := by have := (List.getElem?_eq_some_iff.1 ha).1; rw [h.la] at this; exact this
    refine ⟨_, by rw [send_get, hb]; rfl, ?_⟩
    obtain ⟨k1, k2, k3, k4, k5⟩ := sendAll_keep (lostTo xs) H G as' i a as'.length
    obtain ⟨l1, l2, l3, l4, l5⟩ := sendAll_keep (lostTo (xs.map (tuNg n x G y))) H G bs (rot n x i) b bs.length
    have ka := sendAll_tm (lostTo xs) H G hG as' i a ht.la as'.length
    have kb := sendAll_tm (lostTo (xs.map (tuNg n x G y))) H G hG bs (rot n x i) b ht.lb bs.length
    have hcond : ∀ g, g < G → ((∃ f nd, f < as'.length ∧ as'[f]? = some nd ∧ g < G ∧ (lostTo xs).getD (f * 16 + i) false = false ∧ hit nd.asks a.s.f0 g = true) ↔
        (∃ f nd, f < bs.length ∧ bs[f]? = some nd ∧ rot G y g < G ∧ (lostTo (xs.map (tuNg n x G y))).getD (f * 16 + rot n x i) false = false ∧ hit nd.asks b.s.f0 (rot G y g) = true)) := fun g hg => by
      constructor
      · rintro ⟨f, nd, h1, h2, h3, h4, h5⟩
        obtain ⟨md, hmd, hT⟩ := h.at_ f nd h2
        have hfl : f < n := by rw [← h.la]; exact h1
        refine ⟨rot n x f, md, (List.getElem?_eq_some_iff.1 hmd).1, hmd, rot_lt (by omega), ?_, ?_⟩
        · rw [lost_turn hn hx xs hq hfl hil]; exact h4
        · rw [hit_iff hT.aa ht.ga (by omega)] at h5
          rw [hit_iff hT.asks.bd ht.gr.bd (by omega), hT.asks.at_ g hg, ht.gr.at_ g hg]
          exact h5
      · rintro ⟨f', md, h1, h2, h3, h4, h5⟩
        rw [h.lb] at h1
        obtain ⟨f, hf, rfl⟩ := rot_surj (hx (by omega)) h1
        have hfl : f < as'.length := by rw [h.la]; exact hf
        obtain ⟨md', hmd, hT⟩ := h.at_ f _ (List.getElem?_eq_getElem hfl)
        rw [h2] at hmd
        cases hmd
        refine ⟨f, _, hfl, List.getElem?_eq_getElem hfl, hg, ?_, ?_⟩
        · rw [← lost_turn hn hx xs hq hf hil]; exact h4
        · rw [hit_iff hT.asks.bd ht.gr.bd (by omega), hT.asks.at_ g hg, ht.gr.at_ g hg] at h5
          rw [hit_iff hT.aa ht.ga (by omega)]
          exact h5
    have hno : ∀ g, G ≤ g → ¬ (∃ f nd, f < as'.length ∧ as'[f]? = some nd ∧ g < G ∧ (lostTo xs).getD (f * 16 + i) false = false ∧ hit nd.asks a.s.f0 g = true) := fun g hg ⟨_, _, _, _, h, _⟩ => by omega
    have hnb : ∀ g, G ≤ g → ¬ (∃ f nd, f < bs.length ∧ bs[f]? = some nd ∧ g < G ∧ (lostTo (xs.map (tuNg n x G y))).getD (f * 16 + rot n x i) false = false ∧ hit nd.asks b.s.f0 g = true) := fun g hg ⟨_, _, _, _, h, _⟩ => by omega
    refine ⟨by rw [k1, l1]; exact ht.f1, by rw [k1, l1]; exact ht.f2, by rw [k1, l1]; exact ht.f3, by rw [k1, l1]; exact ht.f4, by rw [k1, l1]; exact ht.gr, by rw [k1]; exact ht.ga, by rw [k2, l2]; exact ht.asks, by rw [k2]; exact ht.aa, by rw [k3, l3]; exact ht.tok, by rw [k4, l4]; exact ht.aw, k5 ht.la, l5 ht.lb, fun g hg => ?_, ?_, fun g h1 h2 => ?_, fun g h1 h2 => ?_⟩
    · by_cases hc : ∃ f nd, f < as'.length ∧ as'[f]? = some nd ∧ g < G ∧ (lostTo xs).getD (f * 16 + i) false = false ∧ hit nd.asks a.s.f0 g = true
      · rw [(ka g).1 hc, (kb (rot G y g)).1 ((hcond g hg).1 hc)]
      · rw [(ka g).2 hc, (kb (rot G y g)).2 (fun h => hc ((hcond g hg).2 h))]
        exact ht.tmg g hg
    · rw [(ka 8).2 (hno 8 hG), (kb 8).2 (hnb 8 hG)]
      exact ht.tm8
    · rw [(ka g).2 (hno g h1)]; exact ht.ta0 g h1 h2
    · rw [(kb g).2 (hnb g h1)]; exact ht.tb0 g h1 h2
end Go.Proofs.Ytiglkpgoakibaab
namespace Go.Proofs.Ytiglkpgoakibaab
open Go.RowKit PTopRegrouped Go.Proofs.YtiglkpgoakibaabW.PrintWords

theorem any_turn {G y : Nat} (hG : G ≤ 8) (hy : 0 < G → y < G) {a b : Nd} (h : NdT G y a b) : b.tm.any (fun t => decide (0 < t)) = a.tm.any (fun t => decide (0 < t)) := by
  refine Bool.eq_iff_iff.2 ?_
  rw [List.any_eq_true, List.any_eq_true]
  constructor
  · rintro ⟨t, hm, ht⟩
    obtain ⟨j, hj, he⟩ := List.getElem_of_mem hm
    have hj' : b.tm[j]? = some t := by rw [List.getElem?_eq_getElem hj, he]
    have hj9 : j < 9 := by rw [← h.lb]; exact hj
    refine ⟨t, ?_, ht⟩
    rcases Nat.lt_or_ge j G with h1 | h1
    · obtain ⟨g, hg, rfl⟩ := rot_surj (hy (by omega)) h1
      rw [h.tmg g hg] at hj'
      exact List.mem_of_getElem? hj'
    · rcases Nat.lt_or_ge j 8 with h2 | h2
      · rw [h.tb0 j h1 h2] at hj'
        cases hj'
        simp at ht
      · obtain rfl : j = 8 := by omega
        rw [h.tm8] at hj'
        exact List.mem_of_getElem? hj'
  · rintro ⟨t, hm, ht⟩
    obtain ⟨j, hj, he⟩ := List.getElem_of_mem hm
    have hj' : a.tm[j]? = some t := by rw [List.getElem?_eq_getElem hj, he]
    have hj9 : j < 9 := by rw [← h.la]; exact hj
    refine ⟨t, ?_, ht⟩
    rcases Nat.lt_or_ge j G with h1 | h1
    · rw [← h.tmg j h1] at hj'
      exact List.mem_of_getElem? hj'
    · rcases Nat.lt_or_ge j 8 with h2 | h2
      · rw [h.ta0 j h1 h2] at hj'
        cases hj'
        simp at ht
      · obtain rfl : j = 8 := by omega
        rw [← h.tm8] at hj'
        exact List.mem_of_getElem? hj'
theorem passNd_turn {G y : Nat} (hG : G ≤ 8) (hy : 0 < G → y < G) {a b : Nd} (h : NdT G y a b) : NdT G y (passNd a) (passNd b) where
  f1 := h.f1
  f2 := h.f2
  f3 := h.f3
  f4 := h.f4
  gr := h.gr
  ga := h.ga
  asks := h.asks
  aa := h.aa
  tok := h.tok
  aw := any_turn hG hy h
  la := by simpa [passNd] using h.la
  lb := by simpa [passNd] using h.lb
  tmg := fun g hg => by simp only [passNd, List.getElem?_map, h.tmg g hg]
  tm8 := by simp only [passNd, List.getElem?_map, h.tm8]
  ta0 := fun g h1 h2 => by simp only [passNd, List.getElem?_map, h.ta0 g h1 h2]; rfl
  tb0 := fun g h1 h2 => by simp only [passNd, List.getElem?_map, h.tb0 g h1 h2]; rfl

theorem rowTo_tb (ns : List Nd) (n : Nat) (hn : n ≤ 16) (k : Nat) (hk : k ≤ n) : Bd n (rowTo ns k) ∧ ∀ i, tb (rowTo ns k) i = (decide (i < k) && ((ns[i]?).map (fun x => (passNd x).aw)).getD false) := by
  induction k with
  | zero => exact ⟨bd_zero n, fun i => by rw [rowTo, tb_zero]; simp⟩
  | succ k ih =>
    obtain ⟨h1, h2⟩ := ih (by omega)
    unfold rowTo
    cases hc : ((ns[k]?).map (fun x => (passNd x).aw)).getD false
    · rw [if_neg (by decide)]
      refine ⟨h1, fun i => ?_⟩
      rw [h2 i]
      by_cases he : i = k
      · subst he
        rw [hc]; simp
      · have : decide (i < k + 1) = decide (i < k) := by
          by_cases h : i < k
          · simp [h, Nat.lt_succ_of_lt h]
          · have : ¬ i < k + 1 := by omega
            simp [h, this]
        rw [this]
    · rw [if_pos rfl]
      refine ⟨bd_or h1 (bd_pow (by omega)) hn, fun i => ?_⟩
      rw [tb_or h1 (bd_pow (by omega)) hn, h2 i, tb_pow]
      by_cases he : i = k
      · subst he
        rw [hc]; simp
      · have h3 : decide (k = i) = false := decide_eq_false (fun e => he e.symm)
        have h4 : decide (i < k + 1) = decide (i < k) := by
          by_cases h : i < k
          · simp [h, Nat.lt_succ_of_lt h]
          · have : ¬ i < k + 1 := by omega
            simp [h, this]
        rw [h3, h4, Bool.or_false]
theorem orTo_tb (ns : List Nd) (G : Nat) (hG : G ≤ 16) (hb : ∀ x ∈ ns, Bd G x.asks) (k : Nat) : Bd G (orTo ns k) ∧ ∀ g, (tb (orTo ns k) g = true ↔ ∃ i x, i < k ∧ ns[i]? = some x ∧ tb x.asks g = true) := by
  induction k with
  | zero => exact ⟨bd_zero G, fun g => by rw [orTo, tb_zero]; exact ⟨fun h => (by cases h), fun ⟨i, _, h, _⟩ => (by omega)⟩⟩
  | succ k ih =>
    obtain ⟨h1, h2⟩ := ih
    unfold orTo
    cases hk : ns[k]? with
    | none =>
      have hz : Go.bits .or .i64 (orTo ns k) (((none : Option Nd).map (·.asks)).getD 0) = Go.bits .or .i64 (orTo ns k) 0 := rfl
      rw [hz]
      refine ⟨bd_or h1 (bd_zero G) hG, fun g => ?_⟩
      rw [tb_or h1 (bd_zero G) hG, tb_zero, Bool.or_false, h2 g]
      constructor
      · rintro ⟨i, x, a, b⟩; exact ⟨i, x, by omega, b⟩
      · rintro ⟨i, x, a, b, c⟩
        refine ⟨i, x, ?_, b, c⟩
        rcases Nat.lt_or_ge i k with h | h
        · exact h
        · obtain rfl : i = k := by omega
          rw [hk] at b; cases b
    | some y =>
      have hy := hb y (List.mem_of_getElem? hk)
      have hz : Go.bits .or .i64 (orTo ns k) (((some y).map (·.asks)).getD 0) = Go.bits .or .i64 (orTo ns k) y.asks := rfl
      rw [hz]
      refine ⟨bd_or h1 hy hG, fun g => ?_⟩
      rw [tb_or h1 hy hG, Bool.or_eq_true, h2 g]
      constructor
      · rintro (⟨i, x, a, b⟩ | h)
        · exact ⟨i, x, by omega, b⟩
        · exact ⟨k, y, by omega, hk, h⟩
      · rintro ⟨i, x, a, b, c⟩
        rcases Nat.lt_or_ge i k with h | h
        · exact .inl ⟨i, x, h, b, c⟩
        · obtain rfl : i = k := by omega
          rw [hk] at b; cases b; exact .inr c
theorem NsT.asksA {n x G y : Nat} {as' bs : List Nd} (h : NsT n x G y as' bs) : ∀ a ∈ as', Bd G a.asks := fun a ha => by
  obtain ⟨i, hi, rfl⟩ := List.getElem_of_mem ha
  obtain ⟨b, _, ht⟩ := h.at_ i _ (List.getElem?_eq_getElem hi)
  exact ht.aa
theorem NsT.back {n x G y : Nat} {as' bs : List Nd} (hx : 0 < n → x < n) (h : NsT n x G y as' bs) {j : Nat} {b : Nd} (hb : bs[j]? = some b) : ∃ i a, i < n ∧ rot n x i = j ∧ as'[i]? = some a ∧ NdT G y a b := by
  have hj : j < n := by rw [← h.lb]; exact (List.getElem?_eq_some_iff.1 hb).1
  obtain ⟨i, hi, rfl⟩ := rot_surj (hx (by omega)) hj
  have hil : i < as'.length := by rw [h.la]; exact hi
  obtain ⟨b', hb', ht⟩ := h.at_ i _ (List.getElem?_eq_getElem hil)
  rw [hb] at hb'
  cases hb'
  exact ⟨i, _, hi, rfl, List.getElem?_eq_getElem hil, ht⟩
theorem NsT.asksB {n x G y : Nat} {as' bs : List Nd} (hx : 0 < n → x < n) (h : NsT n x G y as' bs) : ∀ b ∈ bs, Bd G b.asks := fun b hb => by
  obtain ⟨j, hj, rfl⟩ := List.getElem_of_mem hb
  obtain ⟨i, a, _, _, _, ht⟩ := h.back hx (List.getElem?_eq_getElem hj)
  exact ht.asks.bd

theorem rows_turn {n x G y : Nat} (hn : n ≤ 16) (hG : G ≤ 8) (hx : 0 < n → x < n) (hy : 0 < G → y < G) {as' bs : List Nd} (h : NsT n x G y as' bs) : IsTurn n x (rowTo as' as'.length) (rowTo bs bs.length) := by
  obtain ⟨a1, a2⟩ := rowTo_tb as' n hn as'.length (by rw [h.la]; exact Nat.le_refl _)
  obtain ⟨b1, b2⟩ := rowTo_tb bs n hn bs.length (by rw [h.lb]; exact Nat.le_refl _)
  refine ⟨b1, fun i hi => ?_⟩
  rw [a2, b2]
  have hil : i < as'.length := by rw [h.la]; exact hi
  obtain ⟨b, hb, ht⟩ := h.at_ i _ (List.getElem?_eq_getElem hil)
  rw [hb, List.getElem?_eq_getElem hil]
  have h1 := (passNd_turn hG hy ht).aw
  simp only [Option.map_some, Option.getD_some, h1]
  rw [decide_eq_true hil, decide_eq_true (by rw [h.lb]; exact rot_lt (by omega))]
theorem asked_turn {n x G y : Nat} (hG : G ≤ 16) (hx : 0 < n → x < n) {as' bs : List Nd} (h : NsT n x G y as' bs) : IsTurn G y (orTo as' as'.length) (orTo bs bs.length) ∧ Bd G (orTo as' as'.length) := by
  obtain ⟨a1, a2⟩ := orTo_tb as' G hG h.asksA as'.length
  obtain ⟨b1, b2⟩ := orTo_tb bs G hG (h.asksB hx) bs.length
  refine ⟨⟨b1, fun g hg => Bool.eq_iff_iff.2 ?_⟩, a1⟩
  rw [a2, b2]
  constructor
  · rintro ⟨j, b, _, hb, hc⟩
    obtain ⟨i, a, hi, _, ha, ht⟩ := h.back hx hb
    rw [ht.asks.at_ g hg] at hc
    exact ⟨i, a, by rw [h.la]; exact hi, ha, hc⟩
  · rintro ⟨i, a, _, ha, hc⟩
    obtain ⟨b, hb, ht⟩ := h.at_ i a ha
    exact ⟨_, b, (List.getElem?_eq_some_iff.1 hb).1, hb, by rw [ht.asks.at_ g hg]; exact hc⟩

/-! ### all ticks -/
section
variable {n x G y : Nat} (hn : n ≤ 16) (hG : G ≤ 8) (hx : 0 < n → x < n) (hy : 0 < G → y < G) (H : Int) (ls : List Ng) (hq : ∀ q ∈ ls, NgR n G q)
include hn hG hx hy hq
theorem tk1_turn {as' bs : List Nd} (t : Int) (h : NsT n x G y as' bs) : NsT n x G y (tk1 ls t as') (tk1 (ls.map (tuNg n x G y)) t bs) := by
  have _h1 := hn
  unfold tk1
  rw [tu_sel]
  refine askTo_turn (by omega) hx hy _ h (fun q hm => ?_)
  obtain ⟨h1, h2⟩ := List.mem_filter.1 hm
  refine ⟨hq q h1, ?_⟩
  simp [ngSel] at h2
  exact h2.2
theorem tk2_turn {as' bs : List Nd} (t : Int) (h : NsT n x G y as' bs) : NsT n x G y (tk2 H ls t as') (tk2 H (ls.map (tuNg n x G y)) t bs) := by
  have _h1 := hn
  have _h2 := hy
  unfold tk2
  rw [tu_sel]
  exact noiTo_turn hG hx H _ (h.map (fun a b => refNd_turn t)) (fun q hm => hq q (List.mem_filter.1 hm).1)
theorem tk3_turn {as' bs : List Nd} (t : Int) (h : NsT n x G y as' bs) : NsT n x G y (tk3 H G ls t as') (tk3 H G (ls.map (tuNg n x G y)) t bs) := by
  unfold tk3
  rw [tu_sel]
  refine sendTo_turn hn hG hx hy H _ h (fun q hm => ?_)
  obtain ⟨h1, h2⟩ := List.mem_filter.1 hm
  refine ⟨hq q h1, ?_⟩
  simp [ngSel] at h2
  exact h2.2
theorem tick_turn {as' bs : List Nd} (t : Int) (h : NsT n x G y as' bs) : NsT n x G y (tick H G ls t as') (tick H G (ls.map (tuNg n x G y)) t bs) :=
  (tk3_turn hn hG hx hy H ls hq t (tk2_turn hn hG hx hy H ls hq t (tk1_turn hn hG hx hy ls hq t h))).map (fun a b => passNd_turn hG hy)
theorem runNs_turn {as' bs : List Nd} (h : NsT n x G y as' bs) (k : Nat) : NsT n x G y (runNs H G ls as' k) (runNs H G (ls.map (tuNg n x G y)) bs k) := by
  induction k with
  | zero => exact h
  | succ k ih => exact tick_turn hn hG hx hy H ls hq k ih
theorem rowAt_turn {as' bs : List Nd} (h : NsT n x G y as' bs) (k : Nat) : IsTurn n x (rowAt H G ls as' k) (rowAt H G (ls.map (tuNg n x G y)) bs k) := by
  have h3 := tk3_turn hn hG hx hy H ls hq k (tk2_turn hn hG hx hy H ls hq k (tk1_turn hn hG hx hy ls hq k (runNs_turn hn hG hx hy H ls hq h k)))
  have h4 := rows_turn hn hG hx hy h3
  rw [h3.la, h3.lb] at h4
  unfold rowAt
  rw [h.la, h.lb]
  exact h4
theorem askedAt_turn {as' bs : List Nd} (h : NsT n x G y as' bs) (k : Nat) : IsTurn G y (askedAt H G ls as' k) (askedAt H G (ls.map (tuNg n x G y)) bs k) ∧ Bd G (askedAt H G ls as' k) := by
  have h1 := tk1_turn hn hG hx hy ls hq k (runNs_turn hn hG hx hy H ls hq h k)
  have h2 := asked_turn (by omega) hx h1
  rw [h1.la, h1.lb] at h2
  unfold askedAt
  rw [h.la, h.lb]
  exact h2
end
end Go.Proofs.Ytiglkpgoakibaab
namespace Go.Proofs.Ytiglkpgoakibaab
open Go.RowKit PTopRegrouped Go.Proofs.YtiglkpgoakibaabW.PrintWords

/-- b is the sleeper a, its groups turned on. -/
structure SlT (G y : Nat) (a b : S31) : Prop where
  f1 : b.f1 = a.f1
  f2 : b.f2 = a.f2
  f3 : b.f3 = a.f3
  f4 : b.f4 = a.f4
  gr : IsTurn G y a.f0 b.f0
  ga : Bd G a.f0
structure ClT (n x G y : Nat) (ca cb : List S31) : Prop where
  la : ca.length = n
  lb : cb.length = n
  at_ : ∀ i a, ca[i]? = some a → ∃ b, cb[rot n x i]? = some b ∧ SlT G y a b
section
variable {n x G y : Nat} {la lb : List S31}
theorem ClT.ns (hG : G ≤ 8) (h : ClT n x G y la lb) : NsT n x G y (la.map newNd) (lb.map newNd) where
  la := by rw [List.length_map]; exact h.la
  lb := by rw [List.length_map]; exact h.lb
  at_ := fun i a hi => by
    rw [List.getElem?_map] at hi
    obtain ⟨s, hs, rfl⟩ := Option.map_eq_some_iff.1 hi
    obtain ⟨b, hb, ht⟩ := h.at_ i s hs
    refine ⟨newNd b, by rw [List.getElem?_map, hb]; rfl, ht.f1, ht.f2, ht.f3, ht.f4, ht.gr, ht.ga, ⟨bd_zero G, fun g _ => by simp [newNd, tb_zero]⟩, bd_zero G, ht.f3, rfl, by simp [newNd], by simp [newNd], fun g hg => ?_, rfl, fun g h1 h2 => ?_, fun g h1 h2 => ?_⟩
    · have hr : rot G y g < G := rot_lt (by omega)
      simp only [newNd, List.getElem?_replicate]
      rw [if_pos (by omega), if_pos (by omega)]
    · simp only [newNd, List.getElem?_replicate]
      rw [if_pos (by omega)]
    · simp only [newNd, List.getElem?_replicate]
      rw [if_pos (by omega)]
theorem gs_turn (h : ClT n x G y la lb) {i : Nat} (hi : i < n) : IsTurn G y (gsAt la i) (gsAt lb (rot n x i : Nat)) ∧ Bd G (gsAt la i) := by
  have hil : i < la.length := by rw [h.la]; exact hi
  obtain ⟨b, hb, ht⟩ := h.at_ i _ (List.getElem?_eq_getElem hil)
  have e1 : gsAt la (i : Int) = la[i].f0 := by unfold gsAt; rw [Int.toNat_natCast, List.getElem?_eq_getElem hil]; rfl
  have e2 : gsAt lb ((rot n x i : Nat) : Int) = b.f0 := by unfold gsAt; rw [Int.toNat_natCast, hb]; rfl
  rw [e1, e2]
  exact ⟨ht.gr, ht.ga⟩
theorem win_false {a b c : Int} (h : ¬ (b ≤ a ∧ a ≤ c)) : win a b c = false := Bool.eq_false_iff.2 (fun e => h (win_iff.1 e))
theorem right_turn (hG : G ≤ 8) (hx : 0 < n → x < n) (hy : 0 < G → y < G) (h : ClT n x G y la lb) (T : Int) (q : Ng) : rightF G T lb (tuNg n x G y q) = rightF G T la q := by
  unfold rightF
  have hat : (tuNg n x G y q).at_ = q.at_ := rfl
  have hki : (tuNg n x G y q).kind = q.kind := rfl
  rw [hat, hki, h.la, h.lb]
  cases win q.at_ 0 (T - 1)
  · rfl
  · rw [Bool.true_and, Bool.true_and]
    by_cases hn : 0 ≤ q.node ∧ q.node < n
    · have hnode : (tuNg n x G y q).node = ((rot n x q.node.toNat : Nat) : Int) := by unfold tuNg; dsimp only; rw [if_pos hn]
      have hnl : q.node.toNat < n := by omega
      have hrn : rot n x q.node.toNat < n := rot_lt (by omega)
      have w1 : win (tuNg n x G y q).node 0 ((n : Int) - 1) = true := win_iff.2 ⟨by omega, by omega⟩
      have w2 : win q.node 0 ((n : Int) - 1) = true := win_iff.2 ⟨by omega, by omega⟩
      rw [w1, w2, Bool.true_and, Bool.true_and]
      by_cases hk : q.kind = 1 ∨ q.kind = 2
      · rw [if_pos hk, if_pos hk]
        by_cases ha : 0 ≤ q.arg ∧ q.arg < G
        · have harg : (tuNg n x G y q).arg = ((rot G y q.arg.toNat : Nat) : Int) := by unfold tuNg; dsimp only; rw [if_pos ⟨hk, ha⟩]
          have hra : rot G y q.arg.toNat < G := rot_lt (by omega)
          obtain ⟨g1, g2⟩ := gs_turn h hnl
          have e0 : ((q.node.toNat : Nat) : Int) = q.node := by omega
          rw [e0] at g1 g2
          have v1 : win (tuNg n x G y q).arg 0 ((G : Int) - 1) = true := win_iff.2 ⟨by omega, by omega⟩
          have v2 : win q.arg 0 ((G : Int) - 1) = true := win_iff.2 ⟨by omega, by omega⟩
          rw [v1, v2, hnode, harg, Int.toNat_natCast, bit_one g1.bd (by omega), bit_one g2 (by omega), g1.at_ _ (by omega)]
        · have harg : (tuNg n x G y q).arg = q.arg := by
            unfold tuNg
            dsimp only
            rw [if_neg (fun e => ha e.2), if_neg (by omega)]
          have v2 : win q.arg 0 ((G : Int) - 1) = false := win_false (by omega)
          rw [harg, v2, Bool.false_and, Bool.false_and]
      · rw [if_neg hk, if_neg hk]
        by_cases h3 : q.kind = 3
        · have harg : (tuNg n x G y q).arg = q.arg := by
            unfold tuNg
            dsimp only
            rw [if_neg (fun e => hk e.1), if_neg (by omega)]
          rw [if_pos h3, if_pos h3, harg]
        · rw [if_neg h3, if_neg h3]
          by_cases h4 : q.kind = 4
          · rw [if_pos h4, if_pos h4]
            by_cases ha : 0 ≤ q.arg ∧ q.arg < n
            · have harg : (tuNg n x G y q).arg = ((rot n x q.arg.toNat : Nat) : Int) := by
                unfold tuNg
                dsimp only
                rw [if_neg (fun e => hk e.1), if_pos ⟨h4, ha⟩]
              have hra : rot n x q.arg.toNat < n := rot_lt (by omega)
              have v1 : win (tuNg n x G y q).arg 0 ((n : Int) - 1) = true := win_iff.2 ⟨by omega, by omega⟩
              have v2 : win q.arg 0 ((n : Int) - 1) = true := win_iff.2 ⟨by omega, by omega⟩
              rw [v1, v2, Bool.true_and, Bool.true_and, harg, hnode]
              refine Bool.eq_iff_iff.2 ?_
              rw [bne_iff_ne, bne_iff_ne]
              constructor
              · intro hne he
                exact hne (by rw [he])
              · intro hne he
                have := rot_inj (hx (by omega)) (show q.arg.toNat < n by omega) hnl (by omega)
                exact hne (by omega)
            · have harg : (tuNg n x G y q).arg = q.arg := by
                unfold tuNg
                dsimp only
                rw [if_neg (fun e => hk e.1), if_neg (fun e => ha e.2)]
              have v2 : win q.arg 0 ((n : Int) - 1) = false := win_false (by omega)
              rw [harg, v2, Bool.false_and, Bool.false_and]
          · rw [if_neg h4, if_neg h4]
    · have hnode : (tuNg n x G y q).node = q.node := by unfold tuNg; dsimp only; rw [if_neg hn]
      have w2 : win q.node 0 ((n : Int) - 1) = false := win_false (by omega)
      rw [hnode, w2, Bool.false_and, Bool.false_and]
theorem beg_turn (hG : G ≤ 8) (hx : 0 < n → x < n) (hy : 0 < G → y < G) (h : ClT n x G y la lb) (T : Int) (ls : List Ng) : begErr G T lb (ls.map (tuNg n x G y)) = begErr G T la ls := by
  have hany : (ls.map (tuNg n x G y)).any (fun q => !rightF G T lb q) = ls.any (fun q => !rightF G T la q) := by
    rw [List.any_map]
    congr 1
    funext q
    show (!rightF G T lb (tuNg n x G y q)) = _
    rw [right_turn hG hx hy h]
  unfold begErr
  rw [List.length_map, hany]
theorem right_ngR (h : la.length = n) {T : Int} {q : Ng} (hr : rightF G T la q = true) : NgR n G q := by
  unfold rightF at hr
  simp only [Bool.and_eq_true, win_iff, h] at hr
  obtain ⟨h1, h2, h3⟩ := hr
  refine ⟨h2.1, by omega, fun hk => ?_, fun hk => ?_⟩
  · rw [if_pos hk] at h3
    simp only [Bool.and_eq_true, win_iff] at h3
    omega
  · rw [if_neg (by omega), if_neg (by omega), if_pos hk] at h3
    simp only [Bool.and_eq_true, win_iff] at h3
    omega
theorem ClT.back (hx : 0 < n → x < n) (h : ClT n x G y la lb) {j : Nat} {b : S31} (hb : lb[j]? = some b) : ∃ i a, i < n ∧ rot n x i = j ∧ la[i]? = some a ∧ SlT G y a b := by
  have hj : j < n := by rw [← h.lb]; exact (List.getElem?_eq_some_iff.1 hb).1
  obtain ⟨i, hi, rfl⟩ := rot_surj (hx (by omega)) hj
  have hil : i < la.length := by rw [h.la]; exact hi
  obtain ⟨b', hb', ht⟩ := h.at_ i _ (List.getElem?_eq_getElem hil)
  rw [hb] at hb'
  cases hb'
  exact ⟨i, _, hi, rfl, List.getElem?_eq_getElem hil, ht⟩
/-- A node fails in a tick just if it does when all is turned on. -/
theorem failB_turn (hn : n ≤ 16) (hG : G ≤ 8) {a b : S31} (ht : SlT G y a b) (hy : 0 < G → y < G) {av bv ar br : Int} (hav : IsTurn G y av bv) (hab : Bd G av) (har : IsTurn n x ar br) (hrb : Bd n ar) {i : Nat} (hi : i < n) : failB bv br b (rot n x i) = failB av ar a i := by
  unfold failB
  rw [bit_zero har.bd hn, bit_zero hrb hn, har.at_ i hi]
  congr 1
  refine Bool.eq_iff_iff.2 ?_
  rw [nz_iff (bd_and ht.gr.bd hav.bd (by omega)) (by omega), nz_iff (bd_and ht.ga hab (by omega)) (by omega)]
  constructor
  · rintro ⟨g', hg', h⟩
    obtain ⟨g, hg, rfl⟩ := rot_surj (hy (by omega)) hg'
    rw [tb_and ht.gr.bd hav.bd (by omega), ht.gr.at_ g hg, hav.at_ g hg] at h
    exact ⟨g, hg, by rw [tb_and ht.ga hab (by omega)]; exact h⟩
  · rintro ⟨g, hg, h⟩
    rw [tb_and ht.ga hab (by omega)] at h
    exact ⟨rot G y g, rot_lt (by omega), by rw [tb_and ht.gr.bd hav.bd (by omega), ht.gr.at_ g hg, hav.at_ g hg]; exact h⟩
end
end Go.Proofs.Ytiglkpgoakibaab
namespace Go.Proofs.Ytiglkpgoakibaab
open Go.RowKit PTopRegrouped Go.Proofs.YtiglkpgoakibaabW.PrintWords

theorem askedL_get (H : Int) (G : Nat) (ls : List Ng) (ns : List Nd) (T k : Nat) (hk : k < T) : (askedL H G ls ns T)[k]? = some (askedAt H G ls ns k) := by
  unfold askedL
  rw [List.getElem?_map, List.getElem?_range hk]
  rfl
theorem rowsL_get (H : Int) (G : Nat) (ls : List Ng) (ns : List Nd) (T k : Nat) (hk : k < T) : (rowsL H G ls ns T)[k]? = some (rowAt H G ls ns k) := by
  unfold rowsL
  rw [List.getElem?_map, List.getElem?_range hk]
  rfl
section
variable {n x G y : Nat} {la lb : List S31} (hn : n ≤ 16) (hG : G ≤ 8) (hx : 0 < n → x < n) (hy : 0 < G → y < G) (h : ClT n x G y la lb) (H : Int) (ls : List Ng) (hq : ∀ q ∈ ls, NgR n G q)
include hn hG hx hy h hq
theorem row_bd (k : Nat) : Bd n (rowAt H G ls (la.map newNd) k) := by
  have h0 := h.ns hG
  have h3 := tk3_turn hn hG hx hy H ls hq k (tk2_turn hn hG hx hy H ls hq k (tk1_turn hn hG hx hy ls hq k (runNs_turn hn hG hx hy H ls hq h0 k)))
  unfold rowAt
  exact (rowTo_tb _ n hn _ (by rw [h0.la]; exact Nat.le_refl _)).1
theorem fail_turn (T : Nat) (k : Nat) (hk : k < T) : failAt (askedL H G ls (la.map newNd) T) (rowsL H G ls (la.map newNd) T) la k ↔
    failAt (askedL H G (ls.map (tuNg n x G y)) (lb.map newNd) T) (rowsL H G (ls.map (tuNg n x G y)) (lb.map newNd) T) lb k := by
  have h0 := h.ns hG
  obtain ⟨a1, a2⟩ := askedAt_turn hn hG hx hy H ls hq h0 k
  have r1 := rowAt_turn hn hG hx hy H ls hq h0 k
  have r2 := row_bd hn hG hx hy h H ls hq k
  unfold failAt
  simp only [List.getD_eq_getElem?_getD, askedL_get _ _ _ _ T k hk, rowsL_get _ _ _ _ T k hk, Option.getD_some]
  constructor
  · rintro ⟨i, a, ha, hf⟩
    obtain ⟨b, hb, ht⟩ := h.at_ i a ha
    have hi : i < n := by rw [← h.la]; exact (List.getElem?_eq_some_iff.1 ha).1
    exact ⟨rot n x i, b, hb, by rw [failB_turn hn hG ht hy a1 a2 r1 r2 hi]; exact hf⟩
  · rintro ⟨j, b, hb, hf⟩
    obtain ⟨i, a, hi, rfl, ha, ht⟩ := h.back hx hb
    exact ⟨i, a, ha, by rw [← failB_turn hn hG ht hy a1 a2 r1 r2 hi]; exact hf⟩
end

/-! ### energies -/
theorem enStep_get (row : Int) (l : List S31) (en : List Int) (hl : en.length = l.length) (j i : Nat) : (enStep row l en j)[i]? = if i < j then (match l[i]? with | some s => some (wrap64 (en.getD i 0 + enAdd row s i)) | none => none) else en[i]? := by
  induction j with
  | zero => rw [enStep, if_neg (by omega)]
  | succ j ih =>
    unfold enStep
    cases hj : l[j]? with
    | none =>
      have hlj := List.getElem?_eq_none_iff.1 hj
      dsimp only
      rw [ih]
      by_cases hij : i < j
      · rw [if_pos hij, if_pos (by omega)]
      · rw [if_neg hij]
        by_cases he : i = j
        · subst he
          rw [if_pos (by omega), hj]
          dsimp only
          exact List.getElem?_eq_none (by omega)
        · rw [if_neg (by omega)]
    | some s =>
      have hlj := (List.getElem?_eq_some_iff.1 hj).1
      dsimp only
      by_cases he : i = j
      · subst he
        have hlen : i < (enStep row l en i).length := by rw [enStep_length]; omega
        rw [List.getElem?_set_self hlen, if_pos (by omega), hj]
        dsimp only
        rw [List.getD_eq_getElem?_getD, ih, if_neg (by omega), List.getD_eq_getElem?_getD]
      · rw [List.getElem?_set_ne (fun e => he e.symm), ih]
        by_cases hij : i < j
        · rw [if_pos hij, if_pos (by omega)]
        · rw [if_neg hij, if_neg (by omega)]
theorem en_turn {n x G y : Nat} {la lb : List S31} (hn : n ≤ 16) (hx : 0 < n → x < n) (h : ClT n x G y la lb) (ra rb : List Int) (T : Nat) (hr : ∀ k, k < T → ∃ u v, ra[k]? = some u ∧ rb[k]? = some v ∧ IsTurn n x u v ∧ Bd n u) (k : Nat) (hk : k ≤ T) : ∀ i, i < n → (enTo rb lb k)[rot n x i]? = (enTo ra la k)[i]? := by
  induction k with
  | zero =>
    intro i hi
    have hr := rot_lt (n := n) (x := x) (i := i) (by omega)
    simp only [enTo, List.getElem?_replicate, h.la, h.lb]
    rw [if_pos hr, if_pos hi]
  | succ k ih =>
    intro i hi
    have ih := ih (by omega) i hi
    obtain ⟨u, v, hu, hv, ht, hb⟩ := hr k (by omega)
    have hrl : rot n x i < n := rot_lt (by omega)
    have hil : i < la.length := by rw [h.la]; exact hi
    obtain ⟨b, hb', hs⟩ := h.at_ i _ (List.getElem?_eq_getElem hil)
    have e1 : ra.getD k 0 = u := by rw [List.getD_eq_getElem?_getD, hu]; rfl
    have e2 : rb.getD k 0 = v := by rw [List.getD_eq_getElem?_getD, hv]; rfl
    rw [enTo, enTo, enStep_get _ _ _ (enTo_length _ _ _), enStep_get _ _ _ (enTo_length _ _ _), if_pos (by rw [h.lb]; exact hrl), if_pos hil, hb', List.getElem?_eq_getElem hil]
    dsimp only
    have e3 : (enTo rb lb k).getD (rot n x i) 0 = (enTo ra la k).getD i 0 := by rw [List.getD_eq_getElem?_getD, List.getD_eq_getElem?_getD, ih]
    have e4 : enAdd v b (rot n x i) = enAdd u la[i] i := by
      unfold enAdd bitB
      rw [bit_one ht.bd hn, bit_one hb hn, ht.at_ i hi, hs.f1, hs.f2]
    rw [e1, e2, e3, e4]

/-! ### sums -/
theorem best_congr {a b : S31} (h1 : b.f1 = a.f1) (h2 : b.f2 = a.f2) (h3 : b.f3 = a.f3) (h4 : b.f4 = a.f4) (hold T : Nat) : ∀ m t k, T - t ≤ m → bestF b hold T t k = bestF a hold T t k := by
  have hr : ∀ t k, refT b t k = refT a t k := fun t k => by unfold refT; rw [h3, h4]
  have hw : ∀ t k m, wkTok b t k m = wkTok a t k m := fun t k m => by
    induction m with
    | zero => unfold wkTok; rw [hr]
    | succ m ih => unfold wkTok; rw [ih, hr]
  have he : ∀ m, wkEn b hold m = wkEn a hold m := fun m => by
    induction m with
    | zero => exact h1
    | succ m ih => unfold wkEn; rw [ih, h1, h2]
  intro m
  induction m with
  | zero => intro t k hm; rw [bestF.eq_1 b hold T t k, bestF.eq_1 a hold T t k, dif_pos (by omega), dif_pos (by omega)]
  | succ m ih =>
    intro t k hm
    rw [bestF.eq_1 b hold T t k, bestF.eq_1 a hold T t k]
    by_cases hge : T ≤ t
    · rw [dif_pos hge, dif_pos hge]
    · rw [dif_neg hge, dif_neg hge, hr, hw, he, h2, ih (t + 1) _ (by omega), ih (t + 1 + wkLen hold T t) _ (by omega)]
theorem worst_congr {G y : Nat} {a b : S31} (h : SlT G y a b) (hold T : Nat) : worstF b hold T = worstF a hold T := by
  unfold worstF
  rw [h.f3, best_congr h.f1 h.f2 h.f3 h.f4 hold T T 0 _ (by omega)]
theorem sumTo_eq (l : List S31) (hold T k : Nat) (hk : k ≤ l.length) : sumTo l hold T k = wrap64 (((l.take k).map (fun s => worstF s hold T)).sum) := by
  induction k with
  | zero => simp [sumTo, wrap64]
  | succ k ih =>
    have hlt : k < l.length := by omega
    have ht : l.take (k + 1) = l.take k ++ [l[k]] := by rw [List.take_add_one, List.getElem?_eq_getElem hlt]; rfl
    rw [sumTo, List.getElem?_eq_getElem hlt]
    dsimp only
    rw [ih (by omega), ht, List.map_append, List.sum_append]
    simp only [List.map_cons, List.map_nil, List.sum_cons, List.sum_nil, Int.add_zero]
    unfold wrap64
    omega
/-- A list that is turned on has the same sum. -/
theorem sum_rot {n x : Nat} (hx : 0 < n → x < n) {va vb : List Int} (h1 : va.length = n) (h2 : vb.length = n) (h : ∀ i, i < n → vb[rot n x i]? = va[i]?) : vb.sum = va.sum := by
  by_cases h0 : n = 0
  · have e1 : va = [] := List.eq_nil_of_length_eq_zero (by omega)
    have e2 : vb = [] := List.eq_nil_of_length_eq_zero (by omega)
    rw [e1, e2]
  · have hxn := hx (by omega)
    have he : vb = va.drop (n - x) ++ va.take (n - x) := by
      apply List.ext_getElem?
      intro j
      by_cases hj : j < n
      · by_cases hjx : j < x
        · rw [List.getElem?_append_left (by rw [List.length_drop]; omega), List.getElem?_drop]
          have hr := h (n - x + j) (by omega)
          rw [rot_if hxn (by omega), if_neg (by omega)] at hr
          have e : n - x + j + x - n = j := by omega
          rw [e] at hr
          exact hr
        · rw [List.getElem?_append_right (by rw [List.length_drop]; omega), List.length_drop, List.getElem?_take]
          have hr := h (j - x) (by omega)
          rw [rot_if hxn (by omega), if_pos (by omega)] at hr
          have e : j - x + x = j := by omega
          have e2 : j - (va.length - (n - x)) = j - x := by omega
          rw [e] at hr
          rw [e2, if_pos (by omega)]
          exact hr
      · rw [List.getElem?_eq_none (by omega), List.getElem?_eq_none (by rw [List.length_append, List.length_drop, List.length_take]; omega)]
    rw [he, List.sum_append, Int.add_comm, ← List.sum_append, List.take_append_drop]
theorem sumF_turn {n x G y : Nat} {la lb : List S31} (hx : 0 < n → x < n) (h : ClT n x G y la lb) (hold T : Nat) : sumF lb hold T = sumF la hold T := by
  unfold sumF
  rw [sumTo_eq _ _ _ _ (Nat.le_refl _), sumTo_eq _ _ _ _ (Nat.le_refl _), List.take_length, List.take_length]
  congr 1
  refine sum_rot hx (by rw [List.length_map]; exact h.la) (by rw [List.length_map]; exact h.lb) (fun i hi => ?_)
  have hil : i < la.length := by rw [h.la]; exact hi
  obtain ⟨b, hb, hs⟩ := h.at_ i _ (List.getElem?_eq_getElem hil)
  rw [List.getElem?_map, List.getElem?_map, hb, List.getElem?_eq_getElem hil]
  simp only [Option.map_some]
  rw [worst_congr hs]
theorem parked_turn {n x G y : Nat} {la lb : List S31} (hx : 0 < n → x < n) (h : ClT n x G y la lb) (hold : Nat) (T : Int) : parkedR lb hold T = parkedR la hold T := by
  have := sumF_turn hx h hold T.toNat
  unfold sumF at this
  unfold parkedR
  rw [this]
theorem lasts_turn {n x G y : Nat} {la lb : List S31} (hx : 0 < n → x < n) (h : ClT n x G y la lb) (hold : Nat) (C : Int) : lastsR lb hold C = lastsR la hold C := by
  have : sumF lb hold = sumF la hold := funext fun T => sumF_turn hx h hold T
  unfold lastsR
  rw [this]
theorem worstR_turn {G y : Nat} {a b : S31} (h : SlT G y a b) (hold : Nat) (T : Int) : worstR b hold T = worstR a hold T := by
  unfold worstR
  rw [worst_congr h]
end Go.Proofs.Ytiglkpgoakibaab
namespace Go.Proofs.Ytiglkpgoakibaab
open Go.RowKit PTopRegrouped Go.Proofs.YtiglkpgoakibaabW.PrintWords

theorem shl_bit (b : Bool) (i : Nat) (h : i ≤ 16) : shl .i64 (if b then 1 else 0) ((i : Nat) : Int) = if b then 2 ^ i else 0 := by
  cases b
  · unfold shl
    have h1 : min ((i : Nat) : Int).toNat IntKind.i64.bits = i := by simp [IntKind.bits]; omega
    rw [h1]
    simp only [Bool.false_eq_true, if_false, Int.zero_mul]
    rw [IntKind.wrap_i64]
    rfl
  · exact shl_one i h

theorem members_l0 (l : List S31) (n : Nat) (hl : l.length = n) (hn : n ≤ 16) (hb : ∀ s ∈ l, Bd 16 s.f0) (g : Nat) (hg : g ≤ 15) (m : Nat) : ∀ (i : Nat) (out : Int), i + m = n → Bd n out → (∀ j, tb out j = (decide (j < i) && ((l[j]?).map (fun s => tb s.f0 g)).getD false)) →
    ∃ r, (∀ k, m + 1 ≤ k → sleep_Members.l0 k g out l l.length i = some (r, 0)) ∧ Bd n r ∧ ∀ j, tb r j = (decide (j < n) && ((l[j]?).map (fun s => tb s.f0 g)).getD false) := by
  induction m with
  | zero =>
    intro i out hi hbd h1
    obtain rfl : i = n := by omega
    refine ⟨out, fun k hk => ?_, hbd, h1⟩
    obtain ⟨k, rfl⟩ : ∃ k', k = k' + 1 := ⟨k - 1, by omega⟩
    rw [sleep_Members.l0, if_neg (by omega)]
  | succ m ih =>
    intro i out hi hbd h1
    have hw : wrap64 ((i : Int) + 1) = ((i + 1 : Nat) : Int) := by unfold wrap64; omega
    have hil : i < l.length := by omega
    obtain ⟨s, hs⟩ : ∃ s, l[i]? = some s := ⟨_, List.getElem?_eq_getElem hil⟩
    have hbs := hb s (List.mem_of_getElem? hs)
    have hp : Bd n (if tb s.f0 g then 2 ^ i else 0) := by
      split
      · exact bd_pow (by omega)
      · exact bd_zero n
    have htp : ∀ j, tb (if tb s.f0 g then 2 ^ i else 0) j = (tb s.f0 g && decide (i = j)) := fun j => by
      cases tb s.f0 g
      · simp [tb_zero]
      · simp [tb_pow]
    obtain ⟨r, hr, ht⟩ := ih (i + 1) _ (by omega) (bd_or hbd hp hn) (fun j => by
      rw [tb_or hbd hp hn, h1 j, htp j]
      by_cases he : i = j
      · subst he
        rw [hs]; simp
      · have h4 : decide (j < i + 1) = decide (j < i) := by
          by_cases h : j < i
          · simp [h, Nat.lt_succ_of_lt h]
          · have : ¬ j < i + 1 := by omega
            simp [h, this]
        rw [decide_eq_false he, h4, Bool.and_false, Bool.or_false])
    refine ⟨r, fun k hk => ?_, ht⟩
    obtain ⟨k, rfl⟩ : ∃ k', k = k' + 1 := ⟨k - 1, by omega⟩
    rw [sleep_Members.l0, if_pos (by omega), if_pos (by omega), if_pos (by omega), if_pos (by omega), rd_at hs, shr_eq _ g (by omega), bit_mod hbs (by omega), shl_bit _ i (by omega), hw]
    exact hr k (by omega)
theorem members_ok {G H : Int} {l : List S31} (hk : ClOk G H l) (g : Nat) (hg : (g : Int) < G) : ∃ r, sleep_Members.f (l.length + 2) G H l g = some (r, 0) ∧ Bd l.length r ∧ ∀ j, tb r j = (decide (j < l.length) && ((l[j]?).map (fun s => tb s.f0 g)).getD false) := by
  have h1 := hk.G1
  have h0 := hk.G0
  have hl := hk.len
  have hb : ∀ s ∈ l, Bd 16 s.f0 := fun s hs => by
    have hnd := hk.nd s hs
    unfold nodeB at hnd
    simp only [Bool.and_eq_true, win_iff] at hnd
    obtain ⟨⟨a, b⟩, _⟩ := hnd
    refine ⟨a, ?_⟩
    have h2 : (2 : Int) ^ G.toNat ≤ 2 ^ 16 := by
      have := Nat.pow_le_pow_right (n := 2) (by omega) (show G.toNat ≤ 16 by omega)
      exact_mod_cast this
    omega
  obtain ⟨r, hr, hbd, ht⟩ := members_l0 l l.length rfl hl hb g (by omega) l.length 0 0 (by omega) (bd_zero _) (fun j => by rw [tb_zero]; simp)
  refine ⟨r, ?_, hbd, ht⟩
  have hw : wrap64 (G - 1) = G - 1 := by unfold wrap64; omega
  unfold sleep_Members.f
  rw [sleep_check (clOk_iff.2 hk), hw, sleep_within']
  have hwin : win g 0 (G - 1) = true := win_iff.2 ⟨by omega, by omega⟩
  rw [hwin]
  exact hr (l.length + 2) (by omega)
theorem members_turn {n x G y : Nat} {H : Int} {la lb : List S31} (hx : 0 < n → x < n) (h : ClT n x G y la lb) (ha : ClOk G H la) (hb : ClOk G H lb) (g : Nat) (hg : g < G) {p q : Int} (hp : sleep_Members.f (la.length + 2) G H la g = some (p, 0)) (hq : sleep_Members.f (lb.length + 2) G H lb (rot G y g : Nat) = some (q, 0)) : IsTurn n x p q ∧ Bd n p := by
  obtain ⟨p', e1, b1, t1⟩ := members_ok ha g (by omega)
  have hr : rot G y g < G := rot_lt (by omega)
  obtain ⟨q', e2, b2, t2⟩ := members_ok hb (rot G y g) (by omega)
  rw [hp] at e1
  rw [hq] at e2
  cases e1
  cases e2
  rw [h.la] at b1
  rw [h.lb] at b2
  refine ⟨⟨b2, fun i hi => ?_⟩, b1⟩
  have hil : i < la.length := by rw [h.la]; exact hi
  obtain ⟨b, hb', hs⟩ := h.at_ i _ (List.getElem?_eq_getElem hil)
  rw [t1, t2, hb', List.getElem?_eq_getElem hil]
  simp only [Option.map_some, Option.getD_some]
  rw [hs.gr.at_ g hg, decide_eq_true hil, decide_eq_true (by rw [h.lb]; exact rot_lt (by omega))]
end Go.Proofs.Ytiglkpgoakibaab
namespace Go.Proofs.Ytiglkpgoakibaab
open Go.RowKit PTopRegrouped Go.Proofs.YtiglkpgoakibaabW.PrintWords

def costS (set : Int) (s : S31) : Int := if Go.bits .and .i64 s.f0 set = 0 then s.f2 else s.f1
/-- From node i on no node that is needed sleeps. -/
def feas (l : List S31) (need set : Int) (i : Nat) : Prop := ∀ j s, i ≤ j → l[j]? = some s → Go.bits .and .i64 s.f0 set = 0 → tb need j = false
theorem current_l0 (l : List S31) (n : Nat) (hl : l.length = n) (hn : n ≤ 16) (need set : Int) (hneed : Bd 16 need) (m : Nat) : ∀ (i : Nat) (acc : Int), i + m = n →
    (feas l need set i → ∀ k, m + 1 ≤ k → sleep_current.l0 k need set (wrap64 acc) l l.length i = some (wrap64 (acc + ((l.drop i).map (costS set)).sum), true)) ∧
    (¬ feas l need set i → ∀ k, m + 1 ≤ k → sleep_current.l0 k need set (wrap64 acc) l l.length i = some (0, false)) := by
  induction m with
  | zero =>
    intro i acc hi
    have hd : l.drop i = [] := List.drop_eq_nil_of_le (by omega)
    refine ⟨fun _ k hk => ?_, fun hno => absurd (fun j s hj hs => by have := (List.getElem?_eq_some_iff.1 hs).1; omega) hno⟩
    obtain ⟨k, rfl⟩ : ∃ k', k = k' + 1 := ⟨k - 1, by omega⟩
    rw [sleep_current.l0, if_neg (by omega), hd]
    simp
  | succ m ih =>
    intro i acc hi
    have hw : wrap64 ((i : Int) + 1) = ((i + 1 : Nat) : Int) := by unfold wrap64; omega
    have hil : i < l.length := by omega
    obtain ⟨s, hs⟩ : ∃ s, l[i]? = some s := ⟨_, List.getElem?_eq_getElem hil⟩
    have hd : l.drop i = s :: l.drop (i + 1) := by
      rw [List.drop_eq_getElem_cons hil]
      congr 1
      rw [List.getElem?_eq_getElem hil] at hs
      exact Option.some.inj hs
    have hstep : feas l need set i ↔ ((Go.bits .and .i64 s.f0 set = 0 → tb need i = false) ∧ feas l need set (i + 1)) := by
      constructor
      · intro h
        exact ⟨fun hz => h i s (Nat.le_refl _) hs hz, fun j t hj ht => h j t (by omega) ht⟩
      · rintro ⟨h1, h2⟩ j t hj ht hz
        rcases Nat.lt_or_ge i j with h | h
        · exact h2 j t h ht hz
        · obtain rfl : j = i := by omega
          rw [hs] at ht; cases ht; exact h1 hz
    have hww : ∀ a b : Int, wrap64 (wrap64 a + b) = wrap64 (a + b) := fun a b => by unfold wrap64; omega
    obtain ⟨i1, i2⟩ := ih (i + 1) (acc + costS set s) (by omega)
    by_cases hz : Go.bits .and .i64 s.f0 set = 0
    · have hc : costS set s = s.f2 := by unfold costS; rw [if_pos hz]
      cases ht : tb need i
      · refine ⟨fun hf k hk => ?_, fun hf k hk => ?_⟩
        · obtain ⟨k, rfl⟩ : ∃ k', k = k' + 1 := ⟨k - 1, by omega⟩
          rw [sleep_current.l0, if_pos (by omega), if_pos (by omega), if_pos (by omega), rd_at hs, if_pos hz, shr_eq _ i (by omega), bit_mod hneed (by omega), ht, if_neg (by decide), hw, hww, ← hc, hd, List.map_cons, List.sum_cons, ← Int.add_assoc]
          exact i1 (hstep.1 hf).2 k (by omega)
        · obtain ⟨k, rfl⟩ : ∃ k', k = k' + 1 := ⟨k - 1, by omega⟩
          rw [sleep_current.l0, if_pos (by omega), if_pos (by omega), if_pos (by omega), rd_at hs, if_pos hz, shr_eq _ i (by omega), bit_mod hneed (by omega), ht, if_neg (by decide), hw, hww, ← hc]
          exact i2 (fun h => hf (hstep.2 ⟨fun _ => ht, h⟩)) k (by omega)
      · refine ⟨fun hf => ?_, fun hf k hk => ?_⟩
        · have := (hstep.1 hf).1 hz
          rw [ht] at this; cases this
        · obtain ⟨k, rfl⟩ : ∃ k', k = k' + 1 := ⟨k - 1, by omega⟩
          rw [sleep_current.l0, if_pos (by omega), if_pos (by omega), if_pos (by omega), rd_at hs, if_pos hz, shr_eq _ i (by omega), bit_mod hneed (by omega), ht, if_pos (by decide)]
    · have hc : costS set s = s.f1 := by unfold costS; rw [if_neg hz]
      refine ⟨fun hf k hk => ?_, fun hf k hk => ?_⟩
      · obtain ⟨k, rfl⟩ : ∃ k', k = k' + 1 := ⟨k - 1, by omega⟩
        rw [sleep_current.l0, if_pos (by omega), if_pos (by omega), if_pos (by omega), rd_at hs, if_neg hz, hw, hww, ← hc, hd, List.map_cons, List.sum_cons, ← Int.add_assoc]
        exact i1 (hstep.1 hf).2 k (by omega)
      · obtain ⟨k, rfl⟩ : ∃ k', k = k' + 1 := ⟨k - 1, by omega⟩
        rw [sleep_current.l0, if_pos (by omega), if_pos (by omega), if_pos (by omega), rd_at hs, if_neg hz, hw, hww, ← hc]
        exact i2 (fun h => hf (hstep.2 ⟨fun h0 => absurd h0 hz, h⟩)) k (by omega)
theorem wrap_zero : wrap64 0 = 0 := by unfold wrap64; omega
/-- What all nodes take if a set of groups is awake. -/
def sumC (l : List S31) (set : Int) : Int := wrap64 ((l.map (costS set)).sum)
theorem current_yes (G H : Int) (l : List S31) (hn : l.length ≤ 16) (need set : Int) (hneed : Bd 16 need) (hf : feas l need set 0) (k : Nat) (hk : l.length + 1 ≤ k) : sleep_current.f k G H l need set = some (sumC l set, true) := by
  have h := (current_l0 l l.length rfl hn need set hneed l.length 0 0 (by omega)).1 hf k hk
  rw [List.drop_zero, Int.zero_add, wrap_zero] at h
  exact h
theorem current_no (G H : Int) (l : List S31) (hn : l.length ≤ 16) (need set : Int) (hneed : Bd 16 need) (hf : ¬ feas l need set 0) (k : Nat) (hk : l.length + 1 ≤ k) : sleep_current.f k G H l need set = some (0, false) := by
  have h := (current_l0 l l.length rfl hn need set hneed l.length 0 0 (by omega)).2 hf k hk
  rw [wrap_zero] at h
  exact h

/-- What Choose answers, over all sets below N. -/
def ChoR (l : List S31) (need : Int) (N : Nat) (r : Int × Int × Int) : Prop :=
  (∃ p v, r = (p, v, 0) ∧ (∃ u : Nat, u < N ∧ feas l need u 0 ∧ v = sumC l u) ∧ ∀ u : Nat, u < N → feas l need u 0 → v ≤ sumC l u) ∨ (r = (0, 0, 3) ∧ ∀ u : Nat, u < N → ¬ feas l need u 0)
theorem choose_l0 (G H : Int) (l : List S31) (hn : l.length ≤ 16) (need : Int) (hneed : Bd 16 need) (N : Nat) (hN : N ≤ 1000) (m : Nat) : ∀ (u : Nat) (p v : Int) (found : Bool), u + m = N →
    (found = true → (∃ u0 : Nat, u0 < u ∧ feas l need u0 0 ∧ v = sumC l u0) ∧ ∀ u0 : Nat, u0 < u → feas l need u0 0 → v ≤ sumC l u0) → (found = false → ∀ u0 : Nat, u0 < u → ¬ feas l need u0 0) →
    ∃ r, (∀ k, m + l.length + 2 ≤ k → sleep_Choose.l0 k need p v found N u G H l = some r) ∧ ChoR l need N r := by
  induction m with
  | zero =>
    intro u p v found hu h1 h2
    obtain rfl : u = N := by omega
    cases found
    · refine ⟨(0, 0, 3), fun k hk => ?_, .inr ⟨rfl, h2 rfl⟩⟩
      obtain ⟨k, rfl⟩ : ∃ k', k = k' + 1 := ⟨k - 1, by omega⟩
      rw [sleep_Choose.l0, if_neg (by omega), if_neg (by decide)]
    · refine ⟨(p, v, 0), fun k hk => ?_, .inl ⟨p, v, rfl, h1 rfl⟩⟩
      obtain ⟨k, rfl⟩ : ∃ k', k = k' + 1 := ⟨k - 1, by omega⟩
      rw [sleep_Choose.l0, if_neg (by omega), if_pos rfl]
  | succ m ih =>
    intro u p v found hu h1 h2
    have hw : wrap64 ((u : Int) + 1) = ((u + 1 : Nat) : Int) := by unfold wrap64; omega
    have hsplit : ∀ u0 : Nat, u0 < u + 1 → u0 < u ∨ u0 = u := fun u0 h => by omega
    by_cases hf : feas l need u 0
    · cases found
      · obtain ⟨r, hr, hc⟩ := ih (u + 1) u (sumC l u) true (by omega) (fun _ => ⟨⟨u, by omega, hf, rfl⟩, fun u0 h0 hf0 => by
          rcases hsplit u0 h0 with h | rfl
          · exact absurd hf0 (h2 rfl u0 h)
          · exact Int.le_refl _⟩) (fun h => by cases h)
        refine ⟨r, fun k hk => ?_, hc⟩
        obtain ⟨k, rfl⟩ : ∃ k', k = k' + 1 := ⟨k - 1, by omega⟩
        rw [sleep_Choose.l0, if_pos (by omega), current_yes G H l hn need u hneed hf k (by omega), Option.bind_some, if_pos rfl, if_neg (by decide), hw]
        exact hr k (by omega)
      · obtain ⟨⟨u1, hu1, hf1, hv1⟩, hmin⟩ := h1 rfl
        by_cases hlt : sumC l u < v
        · obtain ⟨r, hr, hc⟩ := ih (u + 1) u (sumC l u) true (by omega) (fun _ => ⟨⟨u, by omega, hf, rfl⟩, fun u0 h0 hf0 => by
            rcases hsplit u0 h0 with h | rfl
            · have := hmin u0 h hf0; omega
            · exact Int.le_refl _⟩) (fun h => by cases h)
          refine ⟨r, fun k hk => ?_, hc⟩
          obtain ⟨k, rfl⟩ : ∃ k', k = k' + 1 := ⟨k - 1, by omega⟩
          rw [sleep_Choose.l0, if_pos (by omega), current_yes G H l hn need u hneed hf k (by omega), Option.bind_some, if_pos rfl, if_pos rfl, if_pos hlt, hw]
          exact hr k (by omega)
        · obtain ⟨r, hr, hc⟩ := ih (u + 1) p v true (by omega) (fun _ => ⟨⟨u1, by omega, hf1, hv1⟩, fun u0 h0 hf0 => by
            rcases hsplit u0 h0 with h | rfl
            · exact hmin u0 h hf0
            · omega⟩) (fun h => by cases h)
          refine ⟨r, fun k hk => ?_, hc⟩
          obtain ⟨k, rfl⟩ : ∃ k', k = k' + 1 := ⟨k - 1, by omega⟩
          rw [sleep_Choose.l0, if_pos (by omega), current_yes G H l hn need u hneed hf k (by omega), Option.bind_some, if_pos rfl, if_pos rfl, if_neg hlt, hw]
          exact hr k (by omega)
    · obtain ⟨r, hr, hc⟩ := ih (u + 1) p v found (by omega) (fun hfo => by
        obtain ⟨⟨u1, hu1, hf1, hv1⟩, hmin⟩ := h1 hfo
        refine ⟨⟨u1, by omega, hf1, hv1⟩, fun u0 h0 hf0 => ?_⟩
        rcases hsplit u0 h0 with h | rfl
        · exact hmin u0 h hf0
        · exact absurd hf0 hf) (fun hfo u0 h0 => by
        rcases hsplit u0 h0 with h | rfl
        · exact h2 hfo u0 h
        · exact hf)
      refine ⟨r, fun k hk => ?_, hc⟩
      obtain ⟨k, rfl⟩ : ∃ k', k = k' + 1 := ⟨k - 1, by omega⟩
      rw [sleep_Choose.l0, if_pos (by omega), current_no G H l hn need u hneed hf k (by omega), Option.bind_some, if_neg (by decide), hw]
      exact hr k (by omega)
end Go.Proofs.Ytiglkpgoakibaab
namespace Go.Proofs.Ytiglkpgoakibaab
open Go.RowKit PTopRegrouped Go.Proofs.YtiglkpgoakibaabW.PrintWords

theorem turn_back {G y : Nat} (hG : G ≤ 16) (hy : 0 < G → y < G) {r : Int} (hr : Bd G r) : ∃ u, Bd G u ∧ IsTurn G y u r := by
  by_cases h0 : G = 0
  · subst h0
    exact ⟨r, hr, hr, fun i hi => by omega⟩
  · have hyG := hy (by omega)
    have hr16 : Bd 16 r := ⟨hr.1, by
      have h2 : (2 : Int) ^ G ≤ 2 ^ 16 := by
        have := Nat.pow_le_pow_right (n := 2) (by omega) hG
        exact_mod_cast this
      have := hr.2
      omega⟩
    by_cases hy0 : y = 0
    · subst hy0
      refine ⟨r, hr, hr, fun i hi => ?_⟩
      have : rot G 0 i = i := by rw [rot_if hyG hi, if_pos (by omega)]; omega
      rw [this]
    · obtain ⟨u, _, hu⟩ := aroundBits_ok (n := G) (x := G - y) (by omega) hG r hr16
      refine ⟨u, hu.bd, hr, fun i hi => ?_⟩
      have hri : rot G y i < G := rot_lt (by omega)
      have h1 := hu.at_ (rot G y i) hri
      have h2 : rot G (G - y) (rot G y i) = i := by
        rw [rot_if (by omega) hri, rot_if hyG hi]
        split <;> split <;> omega
      rw [h2] at h1
      exact h1.symm
theorem turn_on {G y : Nat} (hG : G ≤ 16) (hy : 0 < G → y < G) {u : Int} (hu : Bd G u) : ∃ r, IsTurn G y u r := by
  by_cases h0 : G = 0
  · subst h0
    exact ⟨u, hu, fun i hi => by omega⟩
  · have hu16 : Bd 16 u := ⟨hu.1, by
      have h2 : (2 : Int) ^ G ≤ 2 ^ 16 := by
        have := Nat.pow_le_pow_right (n := 2) (by omega) hG
        exact_mod_cast this
      have := hu.2
      omega⟩
    obtain ⟨r, _, hr⟩ := aroundBits_ok (n := G) (x := y) (hy (by omega)) hG u hu16
    exact ⟨r, hr⟩
section
variable {n x G y : Nat} {la lb : List S31}
theorem and_zero_turn (hG : G ≤ 8) (hy : 0 < G → y < G) {a b : S31} (ht : SlT G y a b) {u u' : Int} (hu : Bd G u) (hT : IsTurn G y u u') : Go.bits .and .i64 b.f0 u' = 0 ↔ Go.bits .and .i64 a.f0 u = 0 := by
  have h : (Go.bits .and .i64 b.f0 u' != 0) = true ↔ (Go.bits .and .i64 a.f0 u != 0) = true := by
    rw [nz_iff (bd_and ht.gr.bd hT.bd (by omega)) (by omega), nz_iff (bd_and ht.ga hu (by omega)) (by omega)]
    constructor
    · rintro ⟨g', hg', h⟩
      obtain ⟨g, hg, rfl⟩ := rot_surj (hy (by omega)) hg'
      rw [tb_and ht.gr.bd hT.bd (by omega), ht.gr.at_ g hg, hT.at_ g hg] at h
      exact ⟨g, hg, by rw [tb_and ht.ga hu (by omega)]; exact h⟩
    · rintro ⟨g, hg, h⟩
      rw [tb_and ht.ga hu (by omega)] at h
      exact ⟨rot G y g, rot_lt (by omega), by rw [tb_and ht.gr.bd hT.bd (by omega), ht.gr.at_ g hg, hT.at_ g hg]; exact h⟩
  rw [bne_iff_ne, bne_iff_ne] at h
  exact ⟨fun h1 => Classical.byContradiction fun h2 => (h.2 h2) h1, fun h1 => Classical.byContradiction fun h2 => (h.1 h2) h1⟩
theorem feas_turn (hG : G ≤ 8) (hx : 0 < n → x < n) (hy : 0 < G → y < G) (h : ClT n x G y la lb) {need need' u u' : Int} (hN : IsTurn n x need need') (hu : Bd G u) (hT : IsTurn G y u u') : feas la need u 0 ↔ feas lb need' u' 0 := by
  constructor
  · intro hf j b _ hb hz
    obtain ⟨i, a, hi, rfl, ha, ht⟩ := h.back hx hb
    rw [hN.at_ i hi]
    exact hf i a (Nat.zero_le _) ha ((and_zero_turn hG hy ht hu hT).1 hz)
  · intro hf i a _ ha hz
    have hi : i < n := by rw [← h.la]; exact (List.getElem?_eq_some_iff.1 ha).1
    obtain ⟨b, hb, ht⟩ := h.at_ i a ha
    rw [← hN.at_ i hi]
    exact hf (rot n x i) b (Nat.zero_le _) hb ((and_zero_turn hG hy ht hu hT).2 hz)
theorem sumC_turn (hG : G ≤ 8) (hx : 0 < n → x < n) (hy : 0 < G → y < G) (h : ClT n x G y la lb) {u u' : Int} (hu : Bd G u) (hT : IsTurn G y u u') : sumC lb u' = sumC la u := by
  unfold sumC
  congr 1
  refine sum_rot hx (by rw [List.length_map]; exact h.la) (by rw [List.length_map]; exact h.lb) (fun i hi => ?_)
  have hil : i < la.length := by rw [h.la]; exact hi
  obtain ⟨b, hb, hs⟩ := h.at_ i _ (List.getElem?_eq_getElem hil)
  rw [List.getElem?_map, List.getElem?_map, hb, List.getElem?_eq_getElem hil]
  simp only [Option.map_some]
  have := and_zero_turn hG hy hs hu hT
  unfold costS
  by_cases hz : Go.bits .and .i64 la[i].f0 u = 0
  · rw [if_pos hz, if_pos (this.2 hz), hs.f2]
  · rw [if_neg hz, if_neg (fun e => hz (this.1 e)), hs.f1]
theorem cho_turn (hG : G ≤ 8) (hx : 0 < n → x < n) (hy : 0 < G → y < G) (h : ClT n x G y la lb) {need need' : Int} (hN : IsTurn n x need need') {ra rb : Int × Int × Int} (h1 : ChoR la need (2 ^ G) ra) (h2 : ChoR lb need' (2 ^ G) rb) :
    ra.2.1 = rb.2.1 ∧ ra.2.2 = rb.2.2 ∧ (ra.2.2 = 0 ∨ ra.1 = 0) := by
  have fwd : ∀ u : Nat, u < 2 ^ G → ∃ u' : Nat, u' < 2 ^ G ∧ IsTurn G y u u' := fun u hu => by
    obtain ⟨r, hr⟩ := turn_on (by omega) hy (Bd.mk_nat hu)
    obtain ⟨u', rfl, hu', _⟩ := hr.bd.nat (by omega)
    exact ⟨u', hu', hr⟩
  have bwd : ∀ u' : Nat, u' < 2 ^ G → ∃ u : Nat, u < 2 ^ G ∧ IsTurn G y u u' := fun u' hu' => by
    obtain ⟨r, hb, hr⟩ := turn_back (by omega) hy (Bd.mk_nat hu')
    obtain ⟨u, rfl, hu, _⟩ := hb.nat (by omega)
    exact ⟨u, hu, hr⟩
  rcases h1 with ⟨p, v, rfl, ⟨u, hu, hf, hv⟩, hmin⟩ | ⟨rfl, hno⟩ <;> rcases h2 with ⟨p', v', rfl, ⟨w, hw, hf', hv'⟩, hmin'⟩ | ⟨rfl, hno'⟩
  · refine ⟨?_, rfl, .inl rfl⟩
    obtain ⟨u', hu', hT⟩ := fwd u hu
    obtain ⟨w', hw', hT'⟩ := bwd w hw
    have a1 := hmin' u' hu' ((feas_turn hG hx hy h hN (Bd.mk_nat hu) hT).1 hf)
    have a2 := hmin w' hw' ((feas_turn hG hx hy h hN (Bd.mk_nat hw') hT').2 hf')
    rw [sumC_turn hG hx hy h (Bd.mk_nat hu) hT] at a1
    rw [← sumC_turn hG hx hy h (Bd.mk_nat hw') hT'] at a2
    show v = v'
    omega
  · obtain ⟨u', hu', hT⟩ := fwd u hu
    exact absurd ((feas_turn hG hx hy h hN (Bd.mk_nat hu) hT).1 hf) (hno' u' hu')
  · obtain ⟨w', hw', hT'⟩ := bwd w hw
    exact absurd ((feas_turn hG hx hy h hN (Bd.mk_nat hw') hT').2 hf') (hno w' hw')
  · exact ⟨rfl, rfl, .inr rfl⟩
end
theorem check_more {G H : Int} {l : List S31} (hk : ClOk G H l) (k : Nat) (h : l.length + 2 ≤ k) : sleep_Check.f k G H l = some 0 := by
  obtain ⟨j, rfl⟩ : ∃ j, k = l.length + 2 + j := ⟨k - (l.length + 2), by omega⟩
  clear h
  induction j with
  | zero => rw [Nat.add_zero, sleep_check (clOk_iff.2 hk)]
  | succ j ih => exact sleep_Check.mono G H l _ 0 ih
theorem choose_ok {G H : Int} {l : List S31} (hk : ClOk G H l) (need : Int) (hneed : Bd l.length need) : ∃ (k : Nat) (r : Int × Int × Int), sleep_Choose.f k G H l need = some r ∧ ChoR l need (2 ^ G.toNat) r := by
  have h0 := hk.G0
  have h1 := hk.G1
  have hl := hk.len
  obtain ⟨g, rfl⟩ := Int.eq_ofNat_of_zero_le (show 0 ≤ G by omega)
  have hg : 2 ^ g ≤ 256 := by
    have := Nat.pow_le_pow_right (n := 2) (by omega) (show g ≤ 8 by omega)
    omega
  have hn16 : Bd 16 need := ⟨hneed.1, by
    have h2 : (2 : Int) ^ l.length ≤ 2 ^ 16 := by
      have := Nat.pow_le_pow_right (n := 2) (by omega) hl
      exact_mod_cast this
    have := hneed.2
    omega⟩
  obtain ⟨r, hr, hc⟩ := choose_l0 g H l hl need hn16 (2 ^ g) (by omega) (2 ^ g) 0 0 0 false (by omega) (fun h => by cases h) (fun _ u hu => by omega)
  refine ⟨400, r, ?_, hc⟩
  have hp := two_pow_le hl
  have hp2 : (0 : Int) < 2 ^ l.length := by have := Nat.pow_pos (n := l.length) (show 0 < 2 by omega); exact_mod_cast this
  have hw : wrap64 ((2 : Int) ^ l.length - 1) = 2 ^ l.length - 1 := by unfold wrap64; omega
  have hwin : win need 0 ((2 : Int) ^ l.length - 1) = true := win_iff.2 ⟨hneed.1, by have := hneed.2; omega⟩
  unfold sleep_Choose.f
  rw [check_more hk 400 (by omega), Option.bind_some, if_pos rfl, shl_one _ hl, hw, sleep_within', hwin, Option.bind_some, if_pos rfl, if_pos (by omega), shl_one _ (by omega)]
  have := hr 400 (by omega)
  have e : ((2 ^ g : Nat) : Int) = 2 ^ g := by simp
  rw [e] at this
  exact this
end Go.Proofs.Ytiglkpgoakibaab
