/- Two knots are joined (join): the walk. Conditions: the forest lies there, both are knots of it, few options. -/
import Derived.Test.YtiglkpgoakibaaaNode
namespace Go.Proofs.Ytiglkpgoakibaaa
open Go.RowKit Go.Maps PTopKnots Go.Proofs.YtiglkpgoakibaaaW.PrintWords Go.Proofs.YtiglkpgoakibaaaW.PrintLast
set_option linter.unusedVariables false
attribute [local go_sem] Oper.semAt_some
set_option linter.unusedSimpArgs false

/-- What a join may cost, d options being left. -/
def costJ : Nat → Nat
  | 0 => 0
  | d + 1 => costJ d + costJ d + 2
theorem costJ_mono {a b : Nat} (h : a ≤ b) : costJ a ≤ costJ b := by
  induction b with
  | zero => rw [show a = 0 by omega]; exact Nat.le_refl _
  | succ b ih =>
    rcases Nat.lt_or_ge a (b + 1) with h' | h'
    · have := ih (by omega)
      simp only [costJ]
      omega
    · rw [show a = b + 1 by omega]
      exact Nat.le_refl _
theorem opB_comm (op : Int) (a b : Bool) : opB op a b = opB op b a := by
  unfold opB
  cases a <;> cases b <;> simp
def IsOp (op : Int) : Prop := op = -4 ∨ op = -5 ∨ op = -6
def JoinPost (N c d : Nat) (Ks : List Kn) (w : World) (F : Fb) (op : Int) (a b : Nat) (e : Ending) (w' : World) : Prop :=
  ∃ (n : Nat) (F' : Fb) (K' : List Kn), e = .returned (.int .i64 n) ∧ Fo w' F' N K' (c + costJ d) ∧ Stp w F Ks w' F' K' ∧ n < K'.length ∧ min (lv Ks a) (lv Ks b) ≤ lv K' n ∧ ∀ v, ev K' n v = opB op (ev Ks a v) (ev Ks b v)
def JoinOk (N d : Nat) : Prop := ∀ (w : World) (F : Fb) (Ks : List Kn) (c : Nat) (op : Int) (a b : Nat), Fo w F N Ks c → IsOp op → a < Ks.length → b < Ks.length → N - min (lv Ks a) (lv Ks b) ≤ d → c + costJ d ≤ 1073741824 →
  Calls Try.prog 29 #[.pointer (some ⟨F.p, 0, none⟩), .int .i64 op, .int .i64 a, .int .i64 b] w (JoinPost N c d Ks w F op a b)
def bN (b : Bool) : Nat := if b then 1 else 0
theorem ev_bN (Ks : List Kn) (b : Bool) (v : Nat → Bool) : ev Ks (bN b) v = b := by cases b <;> simp [bN, ev_0, ev_1]

set_option maxRecDepth 100000 in
set_option maxHeartbeats 1000000 in
theorem join_const {N c d : Nat} {w : World} {F : Fb} {Ks : List Kn} {op : Int} (hf : Fo w F N Ks c) (hop : IsOp op) (x y : Bool) :
    Calls Try.prog 29 #[.pointer (some ⟨F.p, 0, none⟩), .int .i64 op, .int .i64 (bN x), .int .i64 (bN y)] w (JoinPost N c d Ks w F op (bN x) (bN y)) := by
  have h2 := hf.wf.two
  have hfin : JoinPost N c d Ks w F op (bN x) (bN y) (.returned (.int .i64 (bN (opB op x y)))) w := by
    refine ⟨bN (opB op x y), F, Ks, rfl, hf.more (by omega), Stp.refl w F Ks, ?_, ?_, fun v => by rw [ev_bN, ev_bN, ev_bN]⟩
    · unfold bN; split <;> omega
    · have : ∀ z : Bool, lv Ks (bN z) = N := fun z => by
        cases z
        · exact hf.wf.lv0
        · exact hf.wf.lv1
      rw [this, this, this]
      omega
  have HF := Lib.hid hfin
  clear hf hfin
  rcases hop with rfl | rfl | rfl <;> cases x <;> cases y <;>
  · simp only [bN, if_true, if_false, Bool.false_eq_true] at HF ⊢
    go_enter Try.func29, Try.ntmps29
    go_wp2
    go_ret
    exact HF.out

theorem Fo.lvN {w : World} {F : Fb} {N c : Nat} {Ks : List Kn} (h : Fo w F N Ks c) {a : Nat} (ha : a < Ks.length) (h2 : 2 ≤ a) : lv Ks a < N := by
  obtain ⟨k, hk⟩ := h.wf.get ha
  rw [lv_of hk]
  exact (h.wf.kn a k h2 hk).1
set_option maxRecDepth 100000 in
set_option maxHeartbeats 4000000 in
theorem join_step {N d : Nat} (hN : N ≤ 40) (ih : JoinOk N d) {c : Nat} {w : World} {F : Fb} {Ks : List Kn} {op : Int} {a b : Nat} (hf : Fo w F N Ks c) (hop : IsOp op) (ha : a < Ks.length) (hb : b < Ks.length)
    (hd : N - min (lv Ks a) (lv Ks b) ≤ d + 1) (hc : c + costJ (d + 1) ≤ 1073741824) (h2 : ¬ (a < 2 ∧ b < 2)) :
    Calls Try.prog 29 #[.pointer (some ⟨F.p, 0, none⟩), .int .i64 op, .int .i64 a, .int .i64 b] w (JoinPost N c (d + 1) Ks w F op a b) := by
  have hmx : Try.prog.follows .mixedOrders = true := by kernel_rfl
  have hlen := hf.len
  have hcost : costJ (d + 1) = costJ d + costJ d + 2 := rfl
  obtain ⟨q, hq⟩ : ∃ q, min a b = q := ⟨_, rfl⟩
  obtain ⟨r, hr⟩ : ∃ r, max a b = r := ⟨_, rfl⟩
  have hqk : q < Ks.length := by omega
  have hrk : r < Ks.length := by omega
  have hr2 : 2 ≤ r := by omega
  obtain ⟨o, hov⟩ : ∃ o, min (lv Ks q) (lv Ks r) = o := ⟨_, rfl⟩
  have hoN : o < N := by have := hf.lvN hrk hr2; omega
  have hab : ((q = a ∧ r = b) ∨ (q = b ∧ r = a)) := by omega
  have hoab : min (lv Ks a) (lv Ks b) = o := by
    rcases hab with ⟨rfl, rfl⟩ | ⟨rfl, rfl⟩
    · exact hov
    · rw [Nat.min_comm]; exact hov
  have hopb : ∀ v, opB op (ev Ks a v) (ev Ks b v) = opB op (ev Ks q v) (ev Ks r v) := fun v => by
    rcases hab with ⟨rfl, rfl⟩ | ⟨rfl, rfl⟩
    · rfl
    · exact opB_comm _ _ _
  have s1 : Sm op := by rcases hop with rfl | rfl | rfl <;> exact ⟨by decide, by decide⟩
  have s2 : Sm (q : Int) := Sm.nat (by omega)
  have s3 : Sm (r : Int) := Sm.nat (by omega)
  have HKEY := Lib.hid (k3_84 s1 s2 s3)
  have HF := Lib.hid hf
  have HOV := Lib.hid hov
  have HOAB := Lib.hid hoab
  have HOPB := Lib.hid hopb
  have HQ := Lib.hid hq
  have HR := Lib.hid hr
  have HAB := Lib.hid hab
  have HCOST := Lib.hid hcost
  have HD := Lib.hid hd
  have HC := Lib.hid hc
  have HL := Lib.hid hlen
  have hq40 : q ≤ 1099511627776 := by omega
  have hr40 : r ≤ 1099511627776 := by omega
  clear hf hov hoab hopb hq hr hab hcost hd hc hlen
  have hac : decide ((a : Int) < 2 ∧ (b : Int) < 2) = false := decide_eq_false (by omega)
  go_enter Try.func29, Try.ntmps29
  go_upto_region 1 with fail
  go_cut [24] (fun s wx => s = .bool false ∧ w = wx)
  case first =>
    by_cases h3 : (a : Int) < 2
    · have h4 : decide ((b : Int) < 2) = false := decide_eq_false (by omega)
      go_wp2_with fail
      go_meet
      exact ⟨rfl, rfl⟩
    · have h4 : decide ((a : Int) < 2) = false := decide_eq_false h3
      go_wp2_with fail
      go_meet
      exact ⟨rfl, rfl⟩
  case rest =>
    obtain ⟨rfl, rfl⟩ := hcut
    go_upto_if 48 with fail
    go_cut [2, 3] (fun x y wx => x = .int .i64 q ∧ y = .int .i64 r ∧ w = wx)
    case first =>
      have e1 := HQ.out
      have e2 := HR.out
      by_cases h5 : b < a
      · have e3 : b = q := by omega
        have e4 : a = r := by omega
        have E3 := Lib.hid e3
        have E4 := Lib.hid e4
        clear e1 e2 e3 e4
        go_wp2_with fail
        go_meet
        exact ⟨by rw [E3.out], by rw [E4.out], rfl⟩
      · have e3 : a = q := by omega
        have e4 : b = r := by omega
        have E3 := Lib.hid e3
        have E4 := Lib.hid e4
        have h5' : decide (b < a) = false := decide_eq_false h5
        clear e1 e2 e3 e4
        go_wp2_with fail
        go_meet
        exact ⟨by rw [E3.out], by rw [E4.out], rfl⟩
    case rest =>
      obtain ⟨rfl, rfl, rfl⟩ := hcut
      clear hac
      go_upto_region 15 with fail
      obtain ⟨w1, hw1⟩ : ∃ w1, w.alloc (.cells #[.int .i64 op, .int .i64 q, .int .i64 r] 84) = w1 := ⟨_, rfl⟩
      have hB1 : Below w.heap.size w w1 := by rw [← hw1]; exact (Below.refl _ w).alloc (Nat.le_refl _) _
      have k1 : w1.heap[w.heap.size]? = some (.cells #[.int .i64 op, .int .i64 q, .int .i64 r] 84 (0, 0)) := by rw [← hw1]; exact allocNew _ _ _ rfl
      have HF1 := Lib.hid (HF.out.below hB1)
      obtain ⟨x, bb, hlk, hS⟩ := HF1.out.jo.look law84 Try.underlying74 zero3 HKEY.out
      have HLK := Lib.hid hlk
      have HS := Lib.hid hS
      have K1 := Lib.hid k1
      have p3 : w1.cell? ⟨F.p, 3, none⟩ = some (.map (some F.jb)) := (blk_cell' HF1.out.box 3).trans rfl
      have q0 : w1.cell? ⟨w.heap.size, 0, none⟩ = some (.int .i64 op) := (blk_cell' k1 0).trans rfl
      have q1 : w1.cell? ⟨w.heap.size, 1, none⟩ = some (.int .i64 q) := (blk_cell' k1 1).trans rfl
      have q2 : w1.cell? ⟨w.heap.size, 2, none⟩ = some (.int .i64 r) := (blk_cell' k1 2).trans rfl
      have hpl := HF.out.pl
      rw [hw1]
      clear hw1 hlk hS k1
      refine wp_calm ?_
      refine start_ (n := 11) (S := fun w' => w'.cell? ⟨F.p, 3, none⟩ = some (.map (some F.jb)) ∧ w'.cell? ⟨w.heap.size, 0, none⟩ = some (.int .i64 op) ∧ w'.cell? ⟨w.heap.size, 1, none⟩ = some (.int .i64 q) ∧ w'.cell? ⟨w.heap.size, 2, none⟩ = some (.int .i64 r) ∧ (Instr.lookup 74 (.map (some F.jb)) (.agg #[.int .i64 op, .int .i64 q, .int .i64 r]) true).run Try.prog w' = .ok (.tuple #[.int .i64 x, .bool bb]) w') (ds := []) #[false, false, false, false, false, false, false, false, false, false, false] (by kernel_rfl) rfl rfl ⟨p3, q0, q1, q2, HLK.out w1.drew rfl⟩ (fun hHeld => ?_)
      refine pure_ (i := 0) (N := some 56) (v := ?_) (a' := ?_) #[true, false, false, false, false, false, false, false, false, false, false] rfl rfl (by kernel_rfl) (fun _ _ _ h => h) (Or.inl ⟨by rfl, ?_⟩) ?_ ?_
      rotate_left
      · intro w'
        go_simp
        with_reducible rfl
      rotate_left
      · simp only [Act.put, List.setIfInBounds_toArray, List.set_cons_zero, List.set_cons_succ, i64_w, i32_w]
        rfl
      refine pure_ (i := 1) (N := some 57) (v := ?_) (a' := ?_) #[true, true, false, false, false, false, false, false, false, false, false] rfl rfl (by kernel_rfl) (fun _ _ _ h => h) (Or.inl ⟨by rfl, ?_⟩) ?_ ?_
      rotate_left
      · intro w'
        go_simp
        with_reducible rfl
      rotate_left
      · simp only [Act.put, List.setIfInBounds_toArray, List.set_cons_zero, List.set_cons_succ, i64_w, i32_w]
        rfl
      refine pure_ (i := 2) (N := some 58) (v := ?_) (a' := ?_) #[true, true, true, false, false, false, false, false, false, false, false] rfl rfl (by kernel_rfl) (fun _ _ _ h => h) (Or.inl ⟨by rfl, ?_⟩) ?_ ?_
      rotate_left
      · intro w'
        go_simp
        with_reducible rfl
      rotate_left
      · simp only [Act.put, List.setIfInBounds_toArray, List.set_cons_zero, List.set_cons_succ, i64_w, i32_w]
        rfl
      refine take_ (i := 3) (N := some 59) (v := ?_) (a' := ?_) #[true, true, true, true, false, false, false, false, false, false, false] rfl rfl (by kernel_rfl) (fun _ _ _ h => h) (Or.inl ⟨by rfl, ?_⟩) hHeld ?_ ?_
      rotate_left
      · rintro w' ⟨s0, s1, s2, s3, s4⟩
        go_simp
        with_reducible rfl
      rotate_left
      · simp only [Act.put, List.setIfInBounds_toArray, List.set_cons_zero, List.set_cons_succ, i64_w, i32_w]
        rfl
      refine take_ (i := 4) (N := some 60) (v := ?_) (a' := ?_) #[true, true, true, true, true, false, false, false, false, false, false] rfl rfl (by kernel_rfl) (fun _ _ _ h => h) (Or.inl ⟨by rfl, ?_⟩) hHeld ?_ ?_
      rotate_left
      · rintro w' ⟨s0, s1, s2, s3, s4⟩
        go_simp
        with_reducible rfl
      rotate_left
      · simp only [Act.put, List.setIfInBounds_toArray, List.set_cons_zero, List.set_cons_succ, i64_w, i32_w]
        rfl
      refine take_ (i := 5) (N := some 61) (v := ?_) (a' := ?_) #[true, true, true, true, true, true, false, false, false, false, false] rfl rfl (by kernel_rfl) (fun _ _ _ h => h) (Or.inl ⟨by rfl, ?_⟩) hHeld ?_ ?_
      rotate_left
      · rintro w' ⟨s0, s1, s2, s3, s4⟩
        go_simp
        with_reducible rfl
      rotate_left
      · simp only [Act.put, List.setIfInBounds_toArray, List.set_cons_zero, List.set_cons_succ, i64_w, i32_w]
        rfl
      refine pure_ (i := 6) (N := some 55) (v := ?_) (a' := ?_) #[true, true, true, true, true, true, true, false, false, false, false] rfl rfl (by kernel_rfl) (fun _ _ _ h => h) (Or.inl ⟨by rfl, ?_⟩) ?_ ?_
      rotate_left
      · intro w'
        go_simp
        with_reducible rfl
      rotate_left
      · simp only [Act.put, List.setIfInBounds_toArray, List.set_cons_zero, List.set_cons_succ, i64_w, i32_w]
        rfl
      refine pure_ (i := 7) (N := some 62) (v := ?_) (a' := ?_) #[true, true, true, true, true, true, true, true, false, false, false] rfl rfl (by kernel_rfl) (fun _ _ _ h => h) (Or.inl ⟨by rfl, ?_⟩) ?_ ?_
      rotate_left
      · intro w'
        go_simp
        with_reducible rfl
      rotate_left
      · simp only [Act.put, List.setIfInBounds_toArray, List.set_cons_zero, List.set_cons_succ, i64_w, i32_w]
        rfl
      refine pure_ (i := 8) (N := some 63) (v := ?_) (a' := ?_) #[true, true, true, true, true, true, true, true, true, false, false] rfl rfl (by kernel_rfl) (fun _ _ _ h => h) (Or.inl ⟨by rfl, ?_⟩) ?_ ?_
      rotate_left
      · intro w'
        go_simp
        with_reducible rfl
      rotate_left
      · simp only [Act.put, List.setIfInBounds_toArray, List.set_cons_zero, List.set_cons_succ, i64_w, i32_w]
        rfl
      refine pure_ (i := 9) (N := some 13) (v := ?_) (a' := ?_) #[true, true, true, true, true, true, true, true, true, true, false] rfl rfl (by kernel_rfl) (fun _ _ _ h => h) (Or.inl ⟨by rfl, ?_⟩) ?_ ?_
      rotate_left
      · intro w'
        go_simp
        with_reducible rfl
      rotate_left
      · simp only [Act.put, List.setIfInBounds_toArray, List.set_cons_zero, List.set_cons_succ, i64_w, i32_w]
        rfl
      refine pure_ (i := 10) (N := some 14) (v := ?_) (a' := ?_) #[true, true, true, true, true, true, true, true, true, true, true] rfl rfl (by kernel_rfl) (fun _ _ _ h => h) (Or.inl ⟨by rfl, ?_⟩) ?_ ?_
      rotate_left
      · intro w'
        go_simp
        with_reducible rfl
      rotate_left
      · simp only [Act.put, List.setIfInBounds_toArray, List.set_cons_zero, List.set_cons_succ, i64_w, i32_w]
        rfl
      refine done_ (by kernel_rfl) ?_
      refine calm_normal ?_
      have HF2 := Lib.hid HF1.out.drew
      cases bb
      · obtain ⟨kq, hkq⟩ := HF.out.wf.get hqk
        obtain ⟨kr, hkr⟩ := HF.out.wf.get hrk
        have hov := HOV.out
        rw [lv_of hkq, lv_of hkr] at hov
        have p1 : w1.drew.cell? ⟨F.p, 1, none⟩ = some (.slice (some ⟨F.kb, 0, none⟩) Ks.length F.cap) := (blk_cell' HF2.out.box 1).trans rfl
        have c1 : w1.drew.cell? ⟨F.kb, q * 3, none⟩ = some (.int .i64 kq.o) := (HF2.out.cell hkq).1
        have c2 : w1.drew.cell? ⟨F.kb, r * 3, none⟩ = some (.int .i64 kr.o) := (HF2.out.cell hkr).1
        obtain ⟨w2, hw2⟩ : ∃ w2, w1.drew = w2 := ⟨_, rfl⟩
        rw [hw2] at HF2 p1 c1 c2 ⊢
        have K2 : Hid (w2.heap[w.heap.size]? = some (.cells #[.int .i64 op, .int .i64 q, .int .i64 r] 84 (0, 0))) := by rw [← hw2]; exact K1
        have hB2 : Below w.heap.size w w2 := by rw [← hw2]; exact hB1.drew
        have hmin : min ((kq.o : Nat) : Int) (kr.o : Int) = (o : Int) := by omega
        clear hw2 hkq hkr hov p3 q0 q1 q2 hHeld HLK HS
        go_upto_region 18 with fail
        go_cut [15] (fun s wx => s = .int .i64 o ∧ w2.drew = wx)
        case first =>
          by_cases hle : kq.o ≤ kr.o
          · have e1 : kq.o = o := by omega
            have E1 := Lib.hid e1
            clear hmin e1
            refine wp_calm ?_
            refine start_ (n := 18) (S := fun w' => w'.cell? ⟨F.p, 1, none⟩ = some (.slice (some ⟨F.kb, 0, none⟩) Ks.length F.cap) ∧ w'.cell? ⟨F.kb, q * 3, none⟩ = some (.int .i64 kq.o) ∧ w'.cell? ⟨F.kb, r * 3, none⟩ = some (.int .i64 kr.o)) (ds := []) #[false, false, false, false, false, false, false, false, false, false, false, false, false, false, false, false, false, false] (by kernel_rfl) rfl rfl ⟨p1, c1, c2⟩ (fun hHeld => ?_)
            refine pure_ (i := 0) (N := some 66) (v := ?_) (a' := ?_) #[true, false, false, false, false, false, false, false, false, false, false, false, false, false, false, false, false, false] rfl rfl (by kernel_rfl) (fun _ _ _ h => h) (Or.inl ⟨by rfl, ?_⟩) ?_ ?_
            rotate_left
            · intro w'
              go_simp
              with_reducible rfl
            rotate_left
            · simp only [Act.put, List.setIfInBounds_toArray, List.set_cons_zero, List.set_cons_succ, i64_w, i32_w]
              rfl
            refine pure_ (i := 1) (N := some 67) (v := ?_) (a' := ?_) #[true, true, false, false, false, false, false, false, false, false, false, false, false, false, false, false, false, false] rfl rfl (by kernel_rfl) (fun _ _ _ h => h) (Or.inl ⟨by rfl, ?_⟩) ?_ ?_
            rotate_left
            · intro w'
              go_simp
              with_reducible rfl
            rotate_left
            · simp only [Act.put, List.setIfInBounds_toArray, List.set_cons_zero, List.set_cons_succ, i64_w, i32_w]
              rfl
            refine pure_ (i := 2) (N := some 68) (v := ?_) (a' := ?_) #[true, true, true, false, false, false, false, false, false, false, false, false, false, false, false, false, false, false] rfl rfl (by kernel_rfl) (fun _ _ _ h => h) (Or.inl ⟨by rfl, ?_⟩) ?_ ?_
            rotate_left
            · intro w'
              go_simp
              with_reducible rfl
            rotate_left
            · simp only [Act.put, List.setIfInBounds_toArray, List.set_cons_zero, List.set_cons_succ, i64_w, i32_w]
              rfl
            refine pure_ (i := 4) (N := some 70) (v := ?_) (a' := ?_) #[true, true, true, false, true, false, false, false, false, false, false, false, false, false, false, false, false, false] rfl rfl (by kernel_rfl) (fun _ _ _ h => h) (Or.inl ⟨by rfl, ?_⟩) ?_ ?_
            rotate_left
            · intro w'
              go_simp
              with_reducible rfl
            rotate_left
            · simp only [Act.put, List.setIfInBounds_toArray, List.set_cons_zero, List.set_cons_succ, i64_w, i32_w]
              rfl
            refine pure_ (i := 8) (N := some 74) (v := ?_) (a' := ?_) #[true, true, true, false, true, false, false, false, true, false, false, false, false, false, false, false, false, false] rfl rfl (by kernel_rfl) (fun _ _ _ h => h) (Or.inl ⟨by rfl, ?_⟩) ?_ ?_
            rotate_left
            · intro w'
              go_simp
              with_reducible rfl
            rotate_left
            · simp only [Act.put, List.setIfInBounds_toArray, List.set_cons_zero, List.set_cons_succ, i64_w, i32_w]
              rfl
            refine pure_ (i := 9) (N := some 75) (v := ?_) (a' := ?_) #[true, true, true, false, true, false, false, false, true, true, false, false, false, false, false, false, false, false] rfl rfl (by kernel_rfl) (fun _ _ _ h => h) (Or.inl ⟨by rfl, ?_⟩) ?_ ?_
            rotate_left
            · intro w'
              go_simp
              with_reducible rfl
            rotate_left
            · simp only [Act.put, List.setIfInBounds_toArray, List.set_cons_zero, List.set_cons_succ, i64_w, i32_w]
              rfl
            refine pure_ (i := 10) (N := some 76) (v := ?_) (a' := ?_) #[true, true, true, false, true, false, false, false, true, true, true, false, false, false, false, false, false, false] rfl rfl (by kernel_rfl) (fun _ _ _ h => h) (Or.inl ⟨by rfl, ?_⟩) ?_ ?_
            rotate_left
            · intro w'
              go_simp
              with_reducible rfl
            rotate_left
            · simp only [Act.put, List.setIfInBounds_toArray, List.set_cons_zero, List.set_cons_succ, i64_w, i32_w]
              rfl
            refine pure_ (i := 12) (N := some 78) (v := ?_) (a' := ?_) #[true, true, true, false, true, false, false, false, true, true, true, false, true, false, false, false, false, false] rfl rfl (by kernel_rfl) (fun _ _ _ h => h) (Or.inl ⟨by rfl, ?_⟩) ?_ ?_
            rotate_left
            · intro w'
              go_simp
              with_reducible rfl
            rotate_left
            · simp only [Act.put, List.setIfInBounds_toArray, List.set_cons_zero, List.set_cons_succ, i64_w, i32_w]
              rfl
            refine take_ (i := 3) (N := some 69) (v := ?_) (a' := ?_) #[true, true, true, true, true, false, false, false, true, true, true, false, true, false, false, false, false, false] rfl rfl (by kernel_rfl) (fun _ _ _ h => h) (Or.inl ⟨by rfl, ?_⟩) hHeld ?_ ?_
            rotate_left
            · rintro w' ⟨s0, s1, s2⟩
              go_simp
              with_reducible rfl
            rotate_left
            · simp only [Act.put, List.setIfInBounds_toArray, List.set_cons_zero, List.set_cons_succ, i64_w, i32_w]
              rfl
            refine pure_ (i := 5) (N := some 71) (v := ?_) (a' := ?_) #[true, true, true, true, true, true, false, false, true, true, true, false, true, false, false, false, false, false] rfl rfl (by kernel_rfl) (fun _ _ _ h => h) (Or.inl ⟨by rfl, ?_⟩) ?_ ?_
            rotate_left
            · intro w'
              go_simp
              with_reducible rfl
            rotate_left
            · simp only [Act.put, List.setIfInBounds_toArray, List.set_cons_zero, List.set_cons_succ, i64_w, i32_w]
              rfl
            refine pure_ (i := 6) (N := some 72) (v := ?_) (a' := ?_) #[true, true, true, true, true, true, true, false, true, true, true, false, true, false, false, false, false, false] rfl rfl (by kernel_rfl) (fun _ _ _ h => h) (Or.inl ⟨by rfl, ?_⟩) ?_ ?_
            rotate_left
            · intro w'
              go_simp
              with_reducible rfl
            rotate_left
            · simp only [Act.put, List.setIfInBounds_toArray, List.set_cons_zero, List.set_cons_succ, i64_w, i32_w]
              rfl
            refine take_ (i := 7) (N := some 73) (v := ?_) (a' := ?_) #[true, true, true, true, true, true, true, true, true, true, true, false, true, false, false, false, false, false] rfl rfl (by kernel_rfl) (fun _ _ _ h => h) (Or.inl ⟨by rfl, ?_⟩) hHeld ?_ ?_
            rotate_left
            · rintro w' ⟨s0, s1, s2⟩
              go_simp
              with_reducible rfl
            rotate_left
            · simp only [Act.put, List.setIfInBounds_toArray, List.set_cons_zero, List.set_cons_succ, i64_w, i32_w]
              rfl
            refine take_ (i := 11) (N := some 77) (v := ?_) (a' := ?_) #[true, true, true, true, true, true, true, true, true, true, true, true, true, false, false, false, false, false] rfl rfl (by kernel_rfl) (fun _ _ _ h => h) (Or.inl ⟨by rfl, ?_⟩) hHeld ?_ ?_
            rotate_left
            · rintro w' ⟨s0, s1, s2⟩
              go_simp
              with_reducible rfl
            rotate_left
            · simp only [Act.put, List.setIfInBounds_toArray, List.set_cons_zero, List.set_cons_succ, i64_w, i32_w]
              rfl
            refine pure_ (i := 13) (N := some 79) (v := ?_) (a' := ?_) #[true, true, true, true, true, true, true, true, true, true, true, true, true, true, false, false, false, false] rfl rfl (by kernel_rfl) (fun _ _ _ h => h) (Or.inl ⟨by rfl, ?_⟩) ?_ ?_
            rotate_left
            · intro w'
              go_simp
              with_reducible rfl
            rotate_left
            · simp only [Act.put, List.setIfInBounds_toArray, List.set_cons_zero, List.set_cons_succ, i64_w, i32_w]
              rfl
            refine pure_ (i := 14) (N := some 80) (v := ?_) (a' := ?_) #[true, true, true, true, true, true, true, true, true, true, true, true, true, true, true, false, false, false] rfl rfl (by kernel_rfl) (fun _ _ _ h => h) (Or.inl ⟨by rfl, ?_⟩) ?_ ?_
            rotate_left
            · intro w'
              go_simp
              with_reducible rfl
            rotate_left
            · simp only [Act.put, List.setIfInBounds_toArray, List.set_cons_zero, List.set_cons_succ, i64_w, i32_w]
              rfl
            refine take_ (i := 15) (N := some 81) (v := ?_) (a' := ?_) #[true, true, true, true, true, true, true, true, true, true, true, true, true, true, true, true, false, false] rfl rfl (by kernel_rfl) (fun _ _ _ h => h) (Or.inl ⟨by rfl, ?_⟩) hHeld ?_ ?_
            rotate_left
            · rintro w' ⟨s0, s1, s2⟩
              go_simp
              with_reducible rfl
            rotate_left
            · simp only [Act.put, List.setIfInBounds_toArray, List.set_cons_zero, List.set_cons_succ, i64_w, i32_w]
              rfl
            refine pure_ (i := 16) (N := some 82) (v := ?_) (a' := ?_) #[true, true, true, true, true, true, true, true, true, true, true, true, true, true, true, true, true, false] rfl rfl (by kernel_rfl) (fun _ _ _ h => h) (Or.inl ⟨by rfl, ?_⟩) ?_ ?_
            rotate_left
            · intro w'
              go_simp
              with_reducible rfl
            rotate_left
            · simp only [Act.put, List.setIfInBounds_toArray, List.set_cons_zero, List.set_cons_succ, i64_w, i32_w]
              rfl
            refine pure_ (i := 17) (N := some 15) (v := ?_) (a' := ?_) #[true, true, true, true, true, true, true, true, true, true, true, true, true, true, true, true, true, true] rfl rfl (by kernel_rfl) (fun _ _ _ h => h) (Or.inl ⟨by rfl, ?_⟩) ?_ ?_
            rotate_left
            · intro w'
              go_simp
              with_reducible rfl
            rotate_left
            · simp only [Act.put, List.setIfInBounds_toArray, List.set_cons_zero, List.set_cons_succ, i64_w, i32_w]
              rfl
            refine done_ (by kernel_rfl) ?_
            refine calm_normal ?_
            go_wp2_with fail
            go_meet
            exact ⟨by rw [E1.out], rfl⟩
          · have e1 : kr.o = o := by omega
            have E1 := Lib.hid e1
            clear hmin e1
            refine wp_calm ?_
            refine start_ (n := 18) (S := fun w' => w'.cell? ⟨F.p, 1, none⟩ = some (.slice (some ⟨F.kb, 0, none⟩) Ks.length F.cap) ∧ w'.cell? ⟨F.kb, q * 3, none⟩ = some (.int .i64 kq.o) ∧ w'.cell? ⟨F.kb, r * 3, none⟩ = some (.int .i64 kr.o)) (ds := []) #[false, false, false, false, false, false, false, false, false, false, false, false, false, false, false, false, false, false] (by kernel_rfl) rfl rfl ⟨p1, c1, c2⟩ (fun hHeld => ?_)
            refine pure_ (i := 0) (N := some 66) (v := ?_) (a' := ?_) #[true, false, false, false, false, false, false, false, false, false, false, false, false, false, false, false, false, false] rfl rfl (by kernel_rfl) (fun _ _ _ h => h) (Or.inl ⟨by rfl, ?_⟩) ?_ ?_
            rotate_left
            · intro w'
              go_simp
              with_reducible rfl
            rotate_left
            · simp only [Act.put, List.setIfInBounds_toArray, List.set_cons_zero, List.set_cons_succ, i64_w, i32_w]
              rfl
            refine pure_ (i := 1) (N := some 67) (v := ?_) (a' := ?_) #[true, true, false, false, false, false, false, false, false, false, false, false, false, false, false, false, false, false] rfl rfl (by kernel_rfl) (fun _ _ _ h => h) (Or.inl ⟨by rfl, ?_⟩) ?_ ?_
            rotate_left
            · intro w'
              go_simp
              with_reducible rfl
            rotate_left
            · simp only [Act.put, List.setIfInBounds_toArray, List.set_cons_zero, List.set_cons_succ, i64_w, i32_w]
              rfl
            refine pure_ (i := 2) (N := some 68) (v := ?_) (a' := ?_) #[true, true, true, false, false, false, false, false, false, false, false, false, false, false, false, false, false, false] rfl rfl (by kernel_rfl) (fun _ _ _ h => h) (Or.inl ⟨by rfl, ?_⟩) ?_ ?_
            rotate_left
            · intro w'
              go_simp
              with_reducible rfl
            rotate_left
            · simp only [Act.put, List.setIfInBounds_toArray, List.set_cons_zero, List.set_cons_succ, i64_w, i32_w]
              rfl
            refine pure_ (i := 4) (N := some 70) (v := ?_) (a' := ?_) #[true, true, true, false, true, false, false, false, false, false, false, false, false, false, false, false, false, false] rfl rfl (by kernel_rfl) (fun _ _ _ h => h) (Or.inl ⟨by rfl, ?_⟩) ?_ ?_
            rotate_left
            · intro w'
              go_simp
              with_reducible rfl
            rotate_left
            · simp only [Act.put, List.setIfInBounds_toArray, List.set_cons_zero, List.set_cons_succ, i64_w, i32_w]
              rfl
            refine pure_ (i := 8) (N := some 74) (v := ?_) (a' := ?_) #[true, true, true, false, true, false, false, false, true, false, false, false, false, false, false, false, false, false] rfl rfl (by kernel_rfl) (fun _ _ _ h => h) (Or.inl ⟨by rfl, ?_⟩) ?_ ?_
            rotate_left
            · intro w'
              go_simp
              with_reducible rfl
            rotate_left
            · simp only [Act.put, List.setIfInBounds_toArray, List.set_cons_zero, List.set_cons_succ, i64_w, i32_w]
              rfl
            refine pure_ (i := 9) (N := some 75) (v := ?_) (a' := ?_) #[true, true, true, false, true, false, false, false, true, true, false, false, false, false, false, false, false, false] rfl rfl (by kernel_rfl) (fun _ _ _ h => h) (Or.inl ⟨by rfl, ?_⟩) ?_ ?_
            rotate_left
            · intro w'
              go_simp
              with_reducible rfl
            rotate_left
            · simp only [Act.put, List.setIfInBounds_toArray, List.set_cons_zero, List.set_cons_succ, i64_w, i32_w]
              rfl
            refine pure_ (i := 10) (N := some 76) (v := ?_) (a' := ?_) #[true, true, true, false, true, false, false, false, true, true, true, false, false, false, false, false, false, false] rfl rfl (by kernel_rfl) (fun _ _ _ h => h) (Or.inl ⟨by rfl, ?_⟩) ?_ ?_
            rotate_left
            · intro w'
              go_simp
              with_reducible rfl
            rotate_left
            · simp only [Act.put, List.setIfInBounds_toArray, List.set_cons_zero, List.set_cons_succ, i64_w, i32_w]
              rfl
            refine pure_ (i := 12) (N := some 78) (v := ?_) (a' := ?_) #[true, true, true, false, true, false, false, false, true, true, true, false, true, false, false, false, false, false] rfl rfl (by kernel_rfl) (fun _ _ _ h => h) (Or.inl ⟨by rfl, ?_⟩) ?_ ?_
            rotate_left
            · intro w'
              go_simp
              with_reducible rfl
            rotate_left
            · simp only [Act.put, List.setIfInBounds_toArray, List.set_cons_zero, List.set_cons_succ, i64_w, i32_w]
              rfl
            refine take_ (i := 3) (N := some 69) (v := ?_) (a' := ?_) #[true, true, true, true, true, false, false, false, true, true, true, false, true, false, false, false, false, false] rfl rfl (by kernel_rfl) (fun _ _ _ h => h) (Or.inl ⟨by rfl, ?_⟩) hHeld ?_ ?_
            rotate_left
            · rintro w' ⟨s0, s1, s2⟩
              go_simp
              with_reducible rfl
            rotate_left
            · simp only [Act.put, List.setIfInBounds_toArray, List.set_cons_zero, List.set_cons_succ, i64_w, i32_w]
              rfl
            refine pure_ (i := 5) (N := some 71) (v := ?_) (a' := ?_) #[true, true, true, true, true, true, false, false, true, true, true, false, true, false, false, false, false, false] rfl rfl (by kernel_rfl) (fun _ _ _ h => h) (Or.inl ⟨by rfl, ?_⟩) ?_ ?_
            rotate_left
            · intro w'
              go_simp
              with_reducible rfl
            rotate_left
            · simp only [Act.put, List.setIfInBounds_toArray, List.set_cons_zero, List.set_cons_succ, i64_w, i32_w]
              rfl
            refine pure_ (i := 6) (N := some 72) (v := ?_) (a' := ?_) #[true, true, true, true, true, true, true, false, true, true, true, false, true, false, false, false, false, false] rfl rfl (by kernel_rfl) (fun _ _ _ h => h) (Or.inl ⟨by rfl, ?_⟩) ?_ ?_
            rotate_left
            · intro w'
              go_simp
              with_reducible rfl
            rotate_left
            · simp only [Act.put, List.setIfInBounds_toArray, List.set_cons_zero, List.set_cons_succ, i64_w, i32_w]
              rfl
            refine take_ (i := 7) (N := some 73) (v := ?_) (a' := ?_) #[true, true, true, true, true, true, true, true, true, true, true, false, true, false, false, false, false, false] rfl rfl (by kernel_rfl) (fun _ _ _ h => h) (Or.inl ⟨by rfl, ?_⟩) hHeld ?_ ?_
            rotate_left
            · rintro w' ⟨s0, s1, s2⟩
              go_simp
              with_reducible rfl
            rotate_left
            · simp only [Act.put, List.setIfInBounds_toArray, List.set_cons_zero, List.set_cons_succ, i64_w, i32_w]
              rfl
            refine take_ (i := 11) (N := some 77) (v := ?_) (a' := ?_) #[true, true, true, true, true, true, true, true, true, true, true, true, true, false, false, false, false, false] rfl rfl (by kernel_rfl) (fun _ _ _ h => h) (Or.inl ⟨by rfl, ?_⟩) hHeld ?_ ?_
            rotate_left
            · rintro w' ⟨s0, s1, s2⟩
              go_simp
              with_reducible rfl
            rotate_left
            · simp only [Act.put, List.setIfInBounds_toArray, List.set_cons_zero, List.set_cons_succ, i64_w, i32_w]
              rfl
            refine pure_ (i := 13) (N := some 79) (v := ?_) (a' := ?_) #[true, true, true, true, true, true, true, true, true, true, true, true, true, true, false, false, false, false] rfl rfl (by kernel_rfl) (fun _ _ _ h => h) (Or.inl ⟨by rfl, ?_⟩) ?_ ?_
            rotate_left
            · intro w'
              go_simp
              with_reducible rfl
            rotate_left
            · simp only [Act.put, List.setIfInBounds_toArray, List.set_cons_zero, List.set_cons_succ, i64_w, i32_w]
              rfl
            refine pure_ (i := 14) (N := some 80) (v := ?_) (a' := ?_) #[true, true, true, true, true, true, true, true, true, true, true, true, true, true, true, false, false, false] rfl rfl (by kernel_rfl) (fun _ _ _ h => h) (Or.inl ⟨by rfl, ?_⟩) ?_ ?_
            rotate_left
            · intro w'
              go_simp
              with_reducible rfl
            rotate_left
            · simp only [Act.put, List.setIfInBounds_toArray, List.set_cons_zero, List.set_cons_succ, i64_w, i32_w]
              rfl
            refine take_ (i := 15) (N := some 81) (v := ?_) (a' := ?_) #[true, true, true, true, true, true, true, true, true, true, true, true, true, true, true, true, false, false] rfl rfl (by kernel_rfl) (fun _ _ _ h => h) (Or.inl ⟨by rfl, ?_⟩) hHeld ?_ ?_
            rotate_left
            · rintro w' ⟨s0, s1, s2⟩
              go_simp
              with_reducible rfl
            rotate_left
            · simp only [Act.put, List.setIfInBounds_toArray, List.set_cons_zero, List.set_cons_succ, i64_w, i32_w]
              rfl
            refine pure_ (i := 16) (N := some 82) (v := ?_) (a' := ?_) #[true, true, true, true, true, true, true, true, true, true, true, true, true, true, true, true, true, false] rfl rfl (by kernel_rfl) (fun _ _ _ h => h) (Or.inl ⟨by rfl, ?_⟩) ?_ ?_
            rotate_left
            · intro w'
              go_simp
              with_reducible rfl
            rotate_left
            · simp only [Act.put, List.setIfInBounds_toArray, List.set_cons_zero, List.set_cons_succ, i64_w, i32_w]
              rfl
            refine pure_ (i := 17) (N := some 15) (v := ?_) (a' := ?_) #[true, true, true, true, true, true, true, true, true, true, true, true, true, true, true, true, true, true] rfl rfl (by kernel_rfl) (fun _ _ _ h => h) (Or.inl ⟨by rfl, ?_⟩) ?_ ?_
            rotate_left
            · intro w'
              go_simp
              with_reducible rfl
            rotate_left
            · simp only [Act.put, List.setIfInBounds_toArray, List.set_cons_zero, List.set_cons_succ, i64_w, i32_w]
              rfl
            refine done_ (by kernel_rfl) ?_
            refine calm_normal ?_
            go_wp2_with fail
            go_meet
            exact ⟨by rw [E1.out], rfl⟩
        case rest =>
          obtain ⟨rfl, rfl⟩ := hcut
          have HF3 := Lib.hid HF2.out.drew
          obtain ⟨w3, hw3⟩ : ∃ w3, w2.drew = w3 := ⟨_, rfl⟩
          rw [hw3] at HF3 ⊢
          have KP3 : Hid (w3.heap[w.heap.size]? = some (.cells #[.int .i64 op, .int .i64 q, .int .i64 r] 84 (0, 0))) := by rw [← hw3]; exact K2
          have hB3 : Below w.heap.size w w3 := by rw [← hw3]; exact hB2.drew
          clear hw3 p1 c1 c2 hmin
          have hoq : o ≤ lv Ks q := by have := HOV.out; omega
          have hor : o ≤ lv Ks r := by have := HOV.out; omega
          obtain ⟨q0, hq0⟩ : ∃ q0, br Ks q o false = q0 := ⟨_, rfl⟩
          obtain ⟨r0, hr0⟩ : ∃ r0, br Ks r o false = r0 := ⟨_, rfl⟩
          have HQ0 : Hid (∀ W : World, Fo W F N Ks c → Calls Try.prog 35 #[.pointer (some ⟨F.p, 0, none⟩), .int .i64 q, .int .i64 o, .bool false] W fun e w' => e = .returned (.int .i64 q0) ∧ Below W.heap.size W w') := fun W hW => by
            have h := branch_any hW hqk o false
            rw [hq0] at h
            exact h
          have HR0 : Hid (∀ W : World, Fo W F N Ks c → Calls Try.prog 35 #[.pointer (some ⟨F.p, 0, none⟩), .int .i64 r, .int .i64 o, .bool false] W fun e w' => e = .returned (.int .i64 r0) ∧ Below W.heap.size W w') := fun W hW => by
            have h := branch_any hW hrk o false
            rw [hr0] at h
            exact h
          have x1 : q0 < Ks.length := by rw [← hq0]; exact br_lt HF.out.wf hqk hoN _
          have x2 : r0 < Ks.length := by rw [← hr0]; exact br_lt HF.out.wf hrk hoN _
          have x3 : o < lv Ks q0 := by rw [← hq0]; exact br_lv HF.out.wf hqk hoN hoq _
          have x4 : o < lv Ks r0 := by rw [← hr0]; exact br_lv HF.out.wf hrk hoN hor _
          have HX1 : Hid (∀ v : Nat → Bool, v o = false → ev Ks q0 v = ev Ks q v ∧ ev Ks r0 v = ev Ks r v) := fun v hv => by
            rw [← hq0, ← hr0]
            exact ⟨br_ev HF.out.wf hqk hoN hoq hv, br_ev HF.out.wf hrk hoN hor hv⟩
          have HDD : Hid (N ≤ d + 1 + o) := by have := HD.out; have := HOAB.out; exact Lib.hid (by omega)
          clear hq0 hr0
          go_wp2_with fail
          refine (HQ0.out _ HF3.out).mono ?_
          rintro e w4 ⟨rfl, hB4⟩
          have HF4 := Lib.hid (HF3.out.below hB4)
          go_wp2_with fail
          refine (HR0.out _ HF4.out).mono ?_
          rintro e w5 ⟨rfl, hB5⟩
          have HF5 := Lib.hid (HF4.out.below hB5)
          have HS5 := Lib.hid ((Stp.of_below F Ks hB4).trans (Stp.of_below F Ks hB5))
          clear hB4 hB5 HQ0 HR0
          go_wp2_with fail
          refine (ih w5 F Ks c op q0 r0 HF5.out hop x1 x2 (by have := HDD.out; omega) (by have := HC.out; have := HCOST.out; omega)).mono ?_
          rintro e w6 ⟨n0, F1, K1, rfl, hF6, hS6, hn0, hlv0, hev0⟩
          have HF6 := Lib.hid hF6
          have HS6 := Lib.hid (HS5.out.trans hS6)
          have HEV0 := Lib.hid hev0
          have hqk1 : q < K1.length := Nat.lt_of_lt_of_le hqk hS6.ext.len
          have hrk1 : r < K1.length := Nat.lt_of_lt_of_le hrk hS6.ext.len
          have hoq1 : o ≤ lv K1 q := by rw [hS6.ext.lv hqk]; exact hoq
          have hor1 : o ≤ lv K1 r := by rw [hS6.ext.lv hrk]; exact hor
          have hlv0' : o < lv K1 n0 := by omega
          obtain ⟨q1, hq1⟩ : ∃ q1, br K1 q o true = q1 := ⟨_, rfl⟩
          obtain ⟨r1, hr1⟩ : ∃ r1, br K1 r o true = r1 := ⟨_, rfl⟩
          have hp6 := hS6.p
          have HQ1 : Hid (∀ W : World, Fo W F1 N K1 (c + costJ d) → Calls Try.prog 35 #[.pointer (some ⟨F.p, 0, none⟩), .int .i64 q, .int .i64 o, .bool true] W fun e w' => e = .returned (.int .i64 q1) ∧ Below W.heap.size W w') := fun W hW => by
            have h := branch_any hW hqk1 o true
            rw [hq1, hp6] at h
            exact h
          have HR1 : Hid (∀ W : World, Fo W F1 N K1 (c + costJ d) → Calls Try.prog 35 #[.pointer (some ⟨F.p, 0, none⟩), .int .i64 r, .int .i64 o, .bool true] W fun e w' => e = .returned (.int .i64 r1) ∧ Below W.heap.size W w') := fun W hW => by
            have h := branch_any hW hrk1 o true
            rw [hr1, hp6] at h
            exact h
          have y1 : q1 < K1.length := by rw [← hq1]; exact br_lt hF6.wf hqk1 hoN _
          have y2 : r1 < K1.length := by rw [← hr1]; exact br_lt hF6.wf hrk1 hoN _
          have y3 : o < lv K1 q1 := by rw [← hq1]; exact br_lv hF6.wf hqk1 hoN hoq1 _
          have y4 : o < lv K1 r1 := by rw [← hr1]; exact br_lv hF6.wf hrk1 hoN hor1 _
          have HX2 : Hid (∀ v : Nat → Bool, v o = true → ev K1 q1 v = ev Ks q v ∧ ev K1 r1 v = ev Ks r v) := fun v hv => by
            rw [← hq1, ← hr1, br_ev hF6.wf hqk1 hoN hoq1 hv, br_ev hF6.wf hrk1 hoN hor1 hv]
            exact ⟨ev_ext HF.out.wf hF6.wf hS6.ext v q hqk, ev_ext HF.out.wf hF6.wf hS6.ext v r hrk⟩
          have HIH : Hid (∀ W : World, Fo W F1 N K1 (c + costJ d) → Calls Try.prog 29 #[.pointer (some ⟨F.p, 0, none⟩), .int .i64 op, .int .i64 q1, .int .i64 r1] W (JoinPost N (c + costJ d) d K1 W F1 op q1 r1)) := fun W hW => by
            have h := ih W F1 K1 (c + costJ d) op q1 r1 hW hop y1 y2 (by have := HDD.out; omega) (by have := HC.out; have := HCOST.out; omega)
            rw [hp6] at h
            exact h
          have HP6 := Lib.hid hp6
          clear hF6 hS6 hev0 hq1 hr1 hp6 hlv0
          go_wp2_with fail
          refine (HQ1.out _ HF6.out).mono ?_
          rintro e w7 ⟨rfl, hB7⟩
          have HF7 := Lib.hid (HF6.out.below hB7)
          go_wp2_with fail
          refine (HR1.out _ HF7.out).mono ?_
          rintro e w8 ⟨rfl, hB8⟩
          have HF8 := Lib.hid (HF7.out.below hB8)
          have HS8 := Lib.hid (HS6.out.trans ((Stp.of_below F1 K1 hB7).trans (Stp.of_below F1 K1 hB8)))
          clear hB7 hB8 HQ1 HR1
          go_wp2_with fail
          refine (HIH.out _ HF8.out).mono ?_
          rintro e w9 ⟨n1, F2, K2, rfl, hF9, hS9, hn1, hlv1, hev1⟩
          have HF9 := Lib.hid hF9
          have HS9 := Lib.hid (HS8.out.trans hS9)
          have hn0' : n0 < K2.length := Nat.lt_of_lt_of_le hn0 hS9.ext.len
          have hl0 : o < lv K2 n0 := by rw [hS9.ext.lv hn0]; exact hlv0'
          have hl1 : o < lv K2 n1 := by omega
          have HEV1 := Lib.hid hev1
          have HEX9 := Lib.hid hS9.ext
          have hp9 : F2.p = F.p := hS9.p.trans HP6.out
          have HND : Hid (Calls Try.prog 39 #[.pointer (some ⟨F.p, 0, none⟩), .int .i64 o, .int .i64 n0, .int .i64 n1] w9 (NodePost N (c + costJ d + costJ d) K2 w9 F2 o n0 n1)) := by
            have h := node_any hF9 (by omega) (by have := HC.out; have := HCOST.out; omega) hoN hn0' hn1 hl0 hl1
            rw [hp9] at h
            exact Lib.hid h
          have HP9 := Lib.hid hp9
          clear hF9 hS9 hev1 hp9 HIH
          go_wp2_with fail
          refine HND.out.mono ?_
          rintro e w10 ⟨n2, F3, K3, rfl, hF10, hS10, hn2, hlv2, hev2⟩
          have hS := HS9.out.trans hS10
          have hp10 : F3.p = F.p := hS10.p.trans HP9.out
          have hj10 : F3.jb = F.jb := hS.jb
          have hwl : w.heap.size < w3.heap.size := blk_lt' KP3.out
          have K10 : Hid (w10.heap[w.heap.size]? = some (.cells #[.int .i64 op, .int .i64 q, .int .i64 r] 84 (0, 0))) := (hS.blk _ hwl (by have := HF.out.pl; omega) (by have := HF.out.kl; omega) (by have := HF.out.kn.lt; omega) (by have := HF.out.jo.lt; omega)).trans KP3.out
          have hk10 := hF10.len
          have hall : ∀ v, ev K3 n2 v = opB op (ev K3 q v) (ev K3 r v) := fun v => by
            rw [hev2 v]
            have e1 : ev K3 n0 v = ev K1 n0 v := ev_ext HF6.out.wf hF10.wf (HEX9.out.trans hS10.ext) v n0 hn0
            have e2 : ev K3 n1 v = ev K2 n1 v := ev_ext HF9.out.wf hF10.wf hS10.ext v n1 hn1
            have e3 : ev K3 q v = ev Ks q v := ev_ext HF.out.wf hF10.wf hS.ext v q hqk
            have e4 : ev K3 r v = ev Ks r v := ev_ext HF.out.wf hF10.wf hS.ext v r hrk
            rw [e1, e2, e3, e4, HEV0.out v, HEV1.out v]
            cases hv : v o
            · obtain ⟨a1, a2⟩ := HX1.out v hv
              rw [if_neg (by decide), a1, a2]
            · obtain ⟨a1, a2⟩ := HX2.out v hv
              rw [if_pos rfl, a1, a2]
          have hJS : JS K3 (k3L op q r) (n2 : Int) := fun op' a' b' h1 h2 h3 hk => by
            obtain ⟨e1, e2, e3⟩ := k3L_inj s1 s2 s3 h1 (Sm.nat h2) (Sm.nat h3) hk
            obtain rfl := e1
            obtain rfl : q = a' := by omega
            obtain rfl : r = b' := by omega
            have z1 := hS.ext.lv hqk
            have z2 := hS.ext.lv hrk
            have z3 := HOV.out
            exact ⟨n2, rfl, Nat.lt_of_lt_of_le hqk hS.ext.len, Nat.lt_of_lt_of_le hrk hS.ext.len, hn2, by rw [z1, z2, z3]; exact hlv2, hall⟩
          obtain ⟨wS, hrS, hkS, hgS⟩ := Sound.store (w := w10.drew) (hF10.jo.same rfl) (by have := HC.out; have := HCOST.out; omega) law84 Try.underlying74 HKEY.out (Sm.nat (n := n2) (by have := HC.out; have := HCOST.out; omega)).wf hJS
          rw [hj10] at hrS hkS hgS
          have hgS' : w10.grownBy wS (some F.jb) := grown_drew hgS
          have hcz : c + costJ d + costJ d + 1 + 1 = c + costJ (d + 1) := by rw [HCOST.out]; omega
          have hfo : Fo wS F3 N K3 (c + costJ (d + 1)) := by
            rw [← hcz]
            refine ⟨?_, ?_, (hF10.kn.kept hgS' (fun e => hF10.n6 ((Option.some.inj e).trans hj10.symm))).imp (by omega) (fun _ _ h => h), by rw [hj10]; exact hkS, hF10.wf, by omega, hF10.n1, hF10.n2, hF10.n3, hF10.n4, hF10.n5, hF10.n6⟩
            · exact (hgS'.block _ hF10.pl (fun e => hF10.n3 ((Option.some.inj e).trans hj10.symm))).trans hF10.box
            · exact hF10.row.kept hgS' (.inr (fun e => hF10.n5 ((Option.some.inj e).trans hj10.symm)))
          have hstp : Stp w F Ks wS F3 K3 := (Stp.of_below F Ks hB3).trans (hS.trans ⟨Ext.refl K3, rfl, rfl, rfl, .inl rfl, hgS'.os, hgS'.tape, hgS'.output, hgS'.size, fun b hb _ _ _ h4 => hgS'.block b hb (fun e => h4 (by rw [hj10]; exact Option.some.inj e))⟩)
          have hfin : JoinPost N c (d + 1) Ks w F op a b (.returned (.int .i64 n2)) wS := by
            refine ⟨n2, F3, K3, rfl, hfo, hstp, hn2, by rw [HOAB.out]; exact hlv2, fun v => ?_⟩
            rw [HOPB.out v, hall v, ev_ext HF.out.wf hF10.wf hS.ext v q hqk, ev_ext HF.out.wf hF10.wf hS.ext v r hrk]
          have HFIN := Lib.hid hfin
          have p3 : w10.cell? ⟨F.p, 3, none⟩ = some (.map (some F.jb)) := by
            have h := (blk_cell' hF10.box 3).trans rfl
            rw [hp10, hj10] at h
            exact h
          have q0' : w10.cell? ⟨w.heap.size, 0, none⟩ = some (.int .i64 op) := (blk_cell' K10.out 0).trans rfl
          have q1' : w10.cell? ⟨w.heap.size, 1, none⟩ = some (.int .i64 q) := (blk_cell' K10.out 1).trans rfl
          have q2' : w10.cell? ⟨w.heap.size, 2, none⟩ = some (.int .i64 r) := (blk_cell' K10.out 2).trans rfl
          clear hF10 hS10 hS hp10 hj10 hall hJS hkS hgS hgS' hfo hstp hfin hev2 hcz HND
          go_wp2_with fail
          refine wp_calm ?_
          refine start_ (n := 7) (S := fun w' => w'.cell? ⟨F.p, 3, none⟩ = some (.map (some F.jb)) ∧ w'.cell? ⟨w.heap.size, 0, none⟩ = some (.int .i64 op) ∧ w'.cell? ⟨w.heap.size, 1, none⟩ = some (.int .i64 q) ∧ w'.cell? ⟨w.heap.size, 2, none⟩ = some (.int .i64 r)) (ds := [6]) #[false, false, false, false, false, false, false] (by kernel_rfl) rfl rfl ⟨p3, q0', q1', q2'⟩ (fun hHeld => ?_)
          refine pure_ (i := 0) (N := some 110) (v := ?_) (a' := ?_) #[true, false, false, false, false, false, false] rfl rfl (by kernel_rfl) (fun _ _ _ h => h) (Or.inl ⟨by rfl, ?_⟩) ?_ ?_
          rotate_left
          · intro w'
            go_simp
            with_reducible rfl
          rotate_left
          · simp only [Act.put, List.setIfInBounds_toArray, List.set_cons_zero, List.set_cons_succ, i64_w, i32_w]
            rfl
          refine pure_ (i := 1) (N := some 111) (v := ?_) (a' := ?_) #[true, true, false, false, false, false, false] rfl rfl (by kernel_rfl) (fun _ _ _ h => h) (Or.inl ⟨by rfl, ?_⟩) ?_ ?_
          rotate_left
          · intro w'
            go_simp
            with_reducible rfl
          rotate_left
          · simp only [Act.put, List.setIfInBounds_toArray, List.set_cons_zero, List.set_cons_succ, i64_w, i32_w]
            rfl
          refine pure_ (i := 2) (N := some 112) (v := ?_) (a' := ?_) #[true, true, true, false, false, false, false] rfl rfl (by kernel_rfl) (fun _ _ _ h => h) (Or.inl ⟨by rfl, ?_⟩) ?_ ?_
          rotate_left
          · intro w'
            go_simp
            with_reducible rfl
          rotate_left
          · simp only [Act.put, List.setIfInBounds_toArray, List.set_cons_zero, List.set_cons_succ, i64_w, i32_w]
            rfl
          refine pure_ (i := 5) (N := some 115) (v := ?_) (a' := ?_) #[true, true, true, false, false, true, false] rfl rfl (by kernel_rfl) (fun _ _ _ h => h) (Or.inl ⟨by rfl, ?_⟩) ?_ ?_
          rotate_left
          · intro w'
            go_simp
            with_reducible rfl
          rotate_left
          · simp only [Act.put, List.setIfInBounds_toArray, List.set_cons_zero, List.set_cons_succ, i64_w, i32_w]
            rfl
          refine take_ (i := 3) (N := some 113) (v := ?_) (a' := ?_) #[true, true, true, true, false, true, false] rfl rfl (by kernel_rfl) (fun _ _ _ h => h) (Or.inl ⟨by rfl, ?_⟩) hHeld ?_ ?_
          rotate_left
          · rintro w' ⟨s0, s1, s2, s3⟩
            go_simp
            with_reducible rfl
          rotate_left
          · simp only [Act.put, List.setIfInBounds_toArray, List.set_cons_zero, List.set_cons_succ, i64_w, i32_w]
            rfl
          refine take_ (i := 4) (N := some 114) (v := ?_) (a' := ?_) #[true, true, true, true, true, true, false] rfl rfl (by kernel_rfl) (fun _ _ _ h => h) (Or.inl ⟨by rfl, ?_⟩) hHeld ?_ ?_
          rotate_left
          · rintro w' ⟨s0, s1, s2, s3⟩
            go_simp
            with_reducible rfl
          rotate_left
          · simp only [Act.put, List.setIfInBounds_toArray, List.set_cons_zero, List.set_cons_succ, i64_w, i32_w]
            rfl
          refine last_ (i := 6) (N := none) #[true, true, true, true, true, true, true] rfl rfl (by kernel_rfl) (by decide) (fun K hK => ?_)
          refine skip_ (w1 := ?_) (by rfl) rfl ?_ ?_
          rotate_left
          · go_simp
            rfl
          refine hK.out _ _ ?_
          clear hK K
          refine done_ (by kernel_rfl) ?_
          refine calm_normal ?_
          clear hrS p3 q0' q1' q2'
          go_wp2_with fail
          go_ret
          exact HFIN.out
      · obtain ⟨n, rfl, _, _, hnl, hlv, hev⟩ := HS.out rfl op q r s1 hq40 hr40 rfl
        have hfin : JoinPost N c (d + 1) Ks w F op a b (.returned (.int .i64 n)) w1.drew :=
          ⟨n, F, Ks, rfl, HF2.out.more (by omega), Stp.of_below F Ks hB1.drew, hnl, by rw [HOAB.out, ← HOV.out]; exact hlv, fun v => by rw [HOPB.out v]; exact hev v⟩
        have HFIN := Lib.hid hfin
        clear hfin hev hlv hnl p3 q0 q1 q2 hHeld
        go_wp2_with fail
        go_ret
        exact HFIN.out
theorem join_any {N : Nat} (hN : N ≤ 40) : ∀ d, JoinOk N d := by
  intro d
  induction d with
  | zero =>
    intro w F Ks c op a b hf hop ha hb hd hc
    have h1 : a < 2 := by
      rcases Nat.lt_or_ge a 2 with h | h
      · exact h
      · have := hf.lvN ha h; omega
    have h2 : b < 2 := by
      rcases Nat.lt_or_ge b 2 with h | h
      · exact h
      · have := hf.lvN hb h; omega
    obtain ⟨x, rfl⟩ : ∃ x, a = bN x := by
      rcases (show a = 0 ∨ a = 1 by omega) with rfl | rfl
      · exact ⟨false, rfl⟩
      · exact ⟨true, rfl⟩
    obtain ⟨y, rfl⟩ : ∃ x, b = bN x := by
      rcases (show b = 0 ∨ b = 1 by omega) with rfl | rfl
      · exact ⟨false, rfl⟩
      · exact ⟨true, rfl⟩
    exact join_const hf hop x y
  | succ d ih =>
    intro w F Ks c op a b hf hop ha hb hd hc
    by_cases h2 : a < 2 ∧ b < 2
    · obtain ⟨x, rfl⟩ : ∃ x, a = bN x := by
        rcases (show a = 0 ∨ a = 1 by omega) with rfl | rfl
        · exact ⟨false, rfl⟩
        · exact ⟨true, rfl⟩
      obtain ⟨y, rfl⟩ : ∃ x, b = bN x := by
        rcases (show b = 0 ∨ b = 1 by omega) with rfl | rfl
        · exact ⟨false, rfl⟩
        · exact ⟨true, rfl⟩
      exact join_const hf hop x y
    · exact join_step hN ih hf hop ha hb hd hc h2
end Go.Proofs.Ytiglkpgoakibaaa
