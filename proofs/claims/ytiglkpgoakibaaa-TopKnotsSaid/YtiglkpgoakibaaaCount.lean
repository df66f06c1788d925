/- The ways of a knot are counted (count): the walk. Conditions: the forest lies there, the map is sound and lies apart. -/
import Derived.Test.YtiglkpgoakibaaaFirst
namespace Go.Proofs.Ytiglkpgoakibaaa
open Go.RowKit Go.Maps PTopKnots Go.Proofs.YtiglkpgoakibaaaW.PrintWords Go.Proofs.YtiglkpgoakibaaaW.PrintLast
set_option linter.unusedVariables false
attribute [local go_sem] Oper.semAt_some
set_option linter.unusedSimpArgs false

/-- What is noted of a knot: its ways. -/
def CS (K : List Kn) (k : Lit) (x : Int) : Prop := ∀ n : Nat, n ≤ 1099511627776 → k = .int .i64 n → x = (wy K n : Nat)
theorem key3 {n : Nat} (h : n ≤ 1099511627776) : keyOf Try.prog 3 (.int .i64 (n : Int)) = some (.int .i64 (n : Int)) := keyOf_int_mk Try.underlying3 (Sm.nat h).wf
def CPost (w : World) (N c mb cm d : Nat) (Ks : List Kn) (n o : Nat) (e : Ending) (w' : World) : Prop :=
  e = .returned (.int .i64 ((wy Ks n * 2 ^ (lv Ks n - o) : Nat) : Int)) ∧ Sound w' 3 mb (cm + costJ (d + 1)) (CS Ks) ∧ w.grownBy w' (some mb)
def CountOk (N d : Nat) : Prop := ∀ (w : World) (F : Fb) (Ks : List Kn) (c mb cm n o : Nat), Fo w F N Ks c → c ≤ 1073741824 → Apt F mb → Sound w 3 mb cm (CS Ks) → cm + costJ (d + 1) ≤ 1073741824 → n < Ks.length → N - lv Ks n ≤ d → o ≤ lv Ks n →
  Calls Try.prog 18 #[.pointer (some ⟨F.p, 0, none⟩), .int .i64 n, .int .i64 o, .map (some mb)] w (CPost w N c mb cm d Ks n o)
theorem pow40 {x a b : Nat} (hx : x ≤ 2 ^ a) (h : a + b ≤ 40) : x * 2 ^ b ≤ 1099511627776 := by
  have h1 := Nat.mul_le_mul_right (2 ^ b) hx
  rw [← Nat.pow_add] at h1
  have h2 : 2 ^ (a + b) ≤ 2 ^ 40 := Nat.pow_le_pow_right (by omega) h
  have h3 : 2 ^ 40 = 1099511627776 := by decide
  omega

theorem wy_40 {N : Nat} {K : List Kn} (hw : WF N K) (hN : N ≤ 40) {n : Nat} (hn : n < K.length) (o : Nat) : wy K n * 2 ^ (lv K n - o) ≤ 1099511627776 := pow40 (wy_le hw n hn) (by have := hw.lv_le hn; omega)
theorem wy_40' {N : Nat} {K : List Kn} (hw : WF N K) (hN : N ≤ 40) {n : Nat} (hn : n < K.length) : wy K n ≤ 1099511627776 := by
  have := wy_40 hw hN hn (lv K n)
  rw [Nat.sub_self, Nat.pow_zero, Nat.mul_one] at this
  exact this
theorem costJ_s (d : Nat) : costJ (d + 1) = costJ d + costJ d + 2 := rfl
theorem shl_nat (x s : Nat) (y : Int) (hy : y = (s : Int)) (hs : s ≤ 64) (hx : x * 2 ^ s ≤ 1099511627776) : Op.shift .shl .i64 (x : Int) .i64 y = pure (.int .i64 ((x * 2 ^ s : Nat) : Int)) := by
  subst hy
  rw [shift_shl_i64 .i64 (x : Int) (s : Int) (by omega) (by omega), Int.toNat_natCast]
  obtain ⟨z, hz⟩ : ∃ z, x * 2 ^ s = z := ⟨_, rfl⟩
  have e : (x : Int) * 2 ^ s = (z : Nat) := by rw [← hz]; simp
  rw [e, hz]
  rw [hz] at hx
  have : IntKind.i64.wrap (z : Int) = z := by rw [IntKind.wrap_i64]; omega
  rw [this]
theorem wrap_sub {a b : Nat} (h : b ≤ a) (ha : a ≤ 1000) : wrap64 ((a : Int) - (b : Int)) = ((a - b : Nat) : Int) := by unfold wrap64; omega
theorem cs_self {K : List Kn} {n : Nat} : CS K (.int .i64 (n : Int)) ((wy K n : Nat) : Int) := fun n' _ e => by
  have : (n : Int) = (n' : Int) := by injection e
  obtain rfl : n = n' := by omega
  rfl
theorem sub_step {N a b d : Nat} (h : N - a ≤ d + 1) (hb : a < b) : N - b ≤ d := by omega
set_option maxRecDepth 100000 in
set_option maxHeartbeats 4000000 in
theorem count_step {N d : Nat} (hN : N ≤ 40) (ih : ∀ d', d = d' + 1 → CountOk N d') : CountOk N d := by
  intro w F Ks c mb cm n o hf hc ha hS hcm hn hd ho
  have hmx : Try.prog.follows .mixedOrders = true := by kernel_rfl
  have hlen := hf.len
  by_cases h0 : n = 0
  · subst h0
    have hfin : CPost w N c mb cm d Ks 0 o (.returned (.int .i64 0)) w := ⟨by rw [wy_0, Nat.zero_mul]; rfl, hS.imp (by omega) (fun _ _ h => h), World.grownBy.refl _ _⟩
    have HFIN := Lib.hid hfin
    clear hf hS hfin ih ha
    go_enter Try.func18, Try.ntmps18
    go_wp2_with fail
    go_ret
    exact HFIN.out
  · have h0' : (((n : Nat) : Int) == 0) = false := by simp [h0]
    obtain ⟨kn, hkn⟩ := hf.wf.get hn
    obtain ⟨c0, c1, c2⟩ := hf.cell hkn
    have hlv := lv_of hkn
    rw [hlv] at hd ho
    have p1 : w.cell? ⟨F.p, 1, none⟩ = some (.slice (some ⟨F.kb, 0, none⟩) Ks.length F.cap) := (blk_cell' hf.box 1).trans rfl
    obtain ⟨x, bb, hlk, hSS⟩ := hS.look law3 Try.underlying61 zero3 (key3 (n := n) (by omega))
    have hlk' := hlk w rfl
    have HF := Lib.hid hf
    have HS := Lib.hid hS
    have HSS := Lib.hid hSS
    have HKN := Lib.hid hkn
    have HLV := Lib.hid hlv
    have HA := Lib.hid ha
    clear hf hS hSS hlk hkn hlv ha
    go_enter Try.func18, Try.ntmps18
    have HW40 := Lib.hid (wy_40' HF.out.wf hN hn)
    have hoN : kn.o ≤ N := by rw [← HLV.out]; exact HF.out.wf.lv_le hn
    have HSH := Lib.hid (shl_nat (wy Ks n) (kn.o - o) (wrap64 ((kn.o : Int) - (o : Int))) (wrap_sub ho (by omega)) (by omega) (by rw [← HLV.out]; exact wy_40 HF.out.wf hN hn o))
    clear hoN
    go_upto_if 29 with fail
    go_cut [10] (fun t wx => t = .int .i64 ((wy Ks n : Nat) : Int) ∧ Hid (Sound wx 3 mb (cm + costJ (d + 1)) (CS Ks)) ∧ Hid (w.grownBy wx (some mb)))
    case first =>
      cases bb
      · go_upto_if 31 with fail
        go_cut [10] (fun t wx => t = .int .i64 ((wy Ks n : Nat) : Int) ∧ Hid (Sound wx 3 mb (cm + (costJ (d + 1) - 1)) (CS Ks)) ∧ Hid (w.grownBy wx (some mb)))
        case first =>
          by_cases h1 : n = 1
          · subst h1
            have HS2 : Hid (Sound w 3 mb (cm + (costJ (d + 1) - 1)) (CS Ks)) := Lib.hid (HS.out.imp (by omega) (fun _ _ h => h))
            go_wp2_with fail
            go_meet
            exact ⟨by rw [wy_1]; rfl, HS2, World.grownBy.refl _ _⟩
          · have h1' : (((n : Nat) : Int) != 1) = true := by simp; omega
            have h2n : 2 ≤ n := by omega
            obtain ⟨b0, b1, b2, b3, b4, b5⟩ := HF.out.wf.kn n kn h2n HKN.out
            obtain ⟨d', rfl⟩ : ∃ d', d = d' + 1 := ⟨d - 1, by omega⟩
            have hcost : costJ (d' + 1 + 1) = costJ (d' + 1) + costJ (d' + 1) + 2 := costJ_s _
            have hw1 : wrap64 ((kn.o : Int) + 1) = ((kn.o + 1 : Nat) : Int) := by unfold wrap64; omega
            have bl : kn.l < Ks.length := by omega
            have bh : kn.h < Ks.length := by omega
            obtain ⟨X, hX⟩ : ∃ X, wy Ks kn.l * 2 ^ (lv Ks kn.l - (kn.o + 1)) = X := ⟨_, rfl⟩
            obtain ⟨Y, hY⟩ : ∃ Y, wy Ks kn.h * 2 ^ (lv Ks kn.h - (kn.o + 1)) = Y := ⟨_, rfl⟩
            have hXY : wy Ks n = X + Y := by rw [← hX, ← hY]; exact wy_k HF.out.wf h2n HKN.out
            have HX := Lib.hid hX
            have HY := Lib.hid hY
            clear hX hY
            have hw40 := wy_40' HF.out.wf hN hn
            have HWR : Hid (wrap64 ((X : Int) + (Y : Int)) = ((wy Ks n : Nat) : Int)) := by
              have : wrap64 ((X : Int) + (Y : Int)) = ((X + Y : Nat) : Int) := by unfold wrap64; omega
              rw [this, ← hXY]
              exact Lib.hid rfl
            have HJ1 : Hid (∀ W : World, Fo W F N Ks c → Sound W 3 mb cm (CS Ks) → Calls Try.prog 18 #[.pointer (some ⟨F.p, 0, none⟩), .int .i64 kn.l, .int .i64 (wrap64 ((kn.o : Int) + 1)), .map (some mb)] W fun e w' => e = .returned (.int .i64 (X : Nat)) ∧ Sound w' 3 mb (cm + costJ (d' + 1)) (CS Ks) ∧ W.grownBy w' (some mb)) := fun W hW hSW => by
              rw [hw1, ← HX.out]
              exact ih d' rfl W F Ks c mb cm kn.l (kn.o + 1) hW hc HA.out hSW (by omega) bl (sub_step hd b4) b4
            have HJ2 : Hid (∀ W : World, Fo W F N Ks c → Sound W 3 mb (cm + costJ (d' + 1)) (CS Ks) → Calls Try.prog 18 #[.pointer (some ⟨F.p, 0, none⟩), .int .i64 kn.h, .int .i64 (wrap64 ((kn.o : Int) + 1)), .map (some mb)] W fun e w' => e = .returned (.int .i64 (Y : Nat)) ∧ Sound w' 3 mb (cm + costJ (d' + 1) + costJ (d' + 1)) (CS Ks) ∧ W.grownBy w' (some mb)) := fun W hW hSW => by
              rw [hw1, ← HY.out]
              exact ih d' rfl W F Ks c mb _ kn.h (kn.o + 1) hW hc HA.out hSW (by omega) bh (sub_step hd b5) b5
            have HCOST := Lib.hid hcost
            have hmF : some F.p ≠ some mb := fun e => HA.out.1 (Option.some.inj e).symm
            have hmK : some F.kb ≠ some mb := fun e => HA.out.2.1 (Option.some.inj e).symm
            have HAM : Hid (∀ b, some mb = some b → Apt F b) := fun b e => by rw [← Option.some.inj e]; exact HA.out
            clear ih hXY hw40 hcost hw1 h1 b0 b1 b2 b3 b4 b5 hd ho
            go_upto_region 8 with fail
            refine wp_calm ?_
            refine start_ (n := 28) (S := fun w' => w'.cell? ⟨F.p, 1, none⟩ = some (.slice (some ⟨F.kb, 0, none⟩) Ks.length F.cap) ∧ w'.cell? ⟨F.kb, n * 3 + 1, none⟩ = some (.int .i64 kn.l) ∧ w'.cell? ⟨F.kb, n * 3 + 2, none⟩ = some (.int .i64 kn.h)) (ds := []) #[false, false, false, false, false, false, false, false, false, false, false, false, false, false, false, false, false, false, false, false, false, false, false, false, false, false, false, false] (by kernel_rfl) rfl rfl ⟨p1, c1, c2⟩ (fun hHeld => ?_)
            refine pure_ (i := 0) (N := some 32) (v := ?_) (a' := ?_) #[true, false, false, false, false, false, false, false, false, false, false, false, false, false, false, false, false, false, false, false, false, false, false, false, false, false, false, false] rfl rfl (by kernel_rfl) (fun _ _ _ h => h) (Or.inl ⟨by rfl, ?_⟩) ?_ ?_
            rotate_left
            · intro w'
              go_simp
              with_reducible rfl
            rotate_left
            · simp only [Act.put, List.setIfInBounds_toArray, List.set_cons_zero, List.set_cons_succ, i64_w, i32_w]
              rfl
            refine pure_ (i := 1) (N := some 33) (v := ?_) (a' := ?_) #[true, true, false, false, false, false, false, false, false, false, false, false, false, false, false, false, false, false, false, false, false, false, false, false, false, false, false, false] rfl rfl (by kernel_rfl) (fun _ _ _ h => h) (Or.inl ⟨by rfl, ?_⟩) ?_ ?_
            rotate_left
            · intro w'
              go_simp
              with_reducible rfl
            rotate_left
            · simp only [Act.put, List.setIfInBounds_toArray, List.set_cons_zero, List.set_cons_succ, i64_w, i32_w]
              rfl
            refine pure_ (i := 2) (N := some 34) (v := ?_) (a' := ?_) #[true, true, true, false, false, false, false, false, false, false, false, false, false, false, false, false, false, false, false, false, false, false, false, false, false, false, false, false] rfl rfl (by kernel_rfl) (fun _ _ _ h => h) (Or.inl ⟨by rfl, ?_⟩) ?_ ?_
            rotate_left
            · intro w'
              go_simp
              with_reducible rfl
            rotate_left
            · simp only [Act.put, List.setIfInBounds_toArray, List.set_cons_zero, List.set_cons_succ, i64_w, i32_w]
              rfl
            refine pure_ (i := 3) (N := some 35) (v := ?_) (a' := ?_) #[true, true, true, true, false, false, false, false, false, false, false, false, false, false, false, false, false, false, false, false, false, false, false, false, false, false, false, false] rfl rfl (by kernel_rfl) (fun _ _ _ h => h) (Or.inl ⟨by rfl, ?_⟩) ?_ ?_
            rotate_left
            · intro w'
              go_simp
              with_reducible rfl
            rotate_left
            · simp only [Act.put, List.setIfInBounds_toArray, List.set_cons_zero, List.set_cons_succ, i64_w, i32_w]
              rfl
            refine pure_ (i := 5) (N := some 37) (v := ?_) (a' := ?_) #[true, true, true, true, false, true, false, false, false, false, false, false, false, false, false, false, false, false, false, false, false, false, false, false, false, false, false, false] rfl rfl (by kernel_rfl) (fun _ _ _ h => h) (Or.inl ⟨by rfl, ?_⟩) ?_ ?_
            rotate_left
            · intro w'
              go_simp
              with_reducible rfl
            rotate_left
            · simp only [Act.put, List.setIfInBounds_toArray, List.set_cons_zero, List.set_cons_succ, i64_w, i32_w]
              rfl
            refine pure_ (i := 9) (N := some 41) (v := ?_) (a' := ?_) #[true, true, true, true, false, true, false, false, false, true, false, false, false, false, false, false, false, false, false, false, false, false, false, false, false, false, false, false] rfl rfl (by kernel_rfl) (fun _ _ _ h => h) (Or.inl ⟨by rfl, ?_⟩) ?_ ?_
            rotate_left
            · intro w'
              go_simp
              with_reducible rfl
            rotate_left
            · simp only [Act.put, List.setIfInBounds_toArray, List.set_cons_zero, List.set_cons_succ, i64_w, i32_w]
              rfl
            refine pure_ (i := 10) (N := some 42) (v := ?_) (a' := ?_) #[true, true, true, true, false, true, false, false, false, true, true, false, false, false, false, false, false, false, false, false, false, false, false, false, false, false, false, false] rfl rfl (by kernel_rfl) (fun _ _ _ h => h) (Or.inl ⟨by rfl, ?_⟩) ?_ ?_
            rotate_left
            · intro w'
              go_simp
              with_reducible rfl
            rotate_left
            · simp only [Act.put, List.setIfInBounds_toArray, List.set_cons_zero, List.set_cons_succ, i64_w, i32_w]
              rfl
            refine pure_ (i := 11) (N := some 43) (v := ?_) (a' := ?_) #[true, true, true, true, false, true, false, false, false, true, true, true, false, false, false, false, false, false, false, false, false, false, false, false, false, false, false, false] rfl rfl (by kernel_rfl) (fun _ _ _ h => h) (Or.inl ⟨by rfl, ?_⟩) ?_ ?_
            rotate_left
            · intro w'
              go_simp
              with_reducible rfl
            rotate_left
            · simp only [Act.put, List.setIfInBounds_toArray, List.set_cons_zero, List.set_cons_succ, i64_w, i32_w]
              rfl
            refine pure_ (i := 13) (N := some 45) (v := ?_) (a' := ?_) #[true, true, true, true, false, true, false, false, false, true, true, true, false, true, false, false, false, false, false, false, false, false, false, false, false, false, false, false] rfl rfl (by kernel_rfl) (fun _ _ _ h => h) (Or.inl ⟨by rfl, ?_⟩) ?_ ?_
            rotate_left
            · intro w'
              go_simp
              with_reducible rfl
            rotate_left
            · simp only [Act.put, List.setIfInBounds_toArray, List.set_cons_zero, List.set_cons_succ, i64_w, i32_w]
              rfl
            refine pure_ (i := 14) (N := some 46) (v := ?_) (a' := ?_) #[true, true, true, true, false, true, false, false, false, true, true, true, false, true, true, false, false, false, false, false, false, false, false, false, false, false, false, false] rfl rfl (by kernel_rfl) (fun _ _ _ h => h) (Or.inl ⟨by rfl, ?_⟩) ?_ ?_
            rotate_left
            · intro w'
              go_simp
              with_reducible rfl
            rotate_left
            · simp only [Act.put, List.setIfInBounds_toArray, List.set_cons_zero, List.set_cons_succ, i64_w, i32_w]
              rfl
            refine pure_ (i := 15) (N := some 47) (v := ?_) (a' := ?_) #[true, true, true, true, false, true, false, false, false, true, true, true, false, true, true, true, false, false, false, false, false, false, false, false, false, false, false, false] rfl rfl (by kernel_rfl) (fun _ _ _ h => h) (Or.inl ⟨by rfl, ?_⟩) ?_ ?_
            rotate_left
            · intro w'
              go_simp
              with_reducible rfl
            rotate_left
            · simp only [Act.put, List.setIfInBounds_toArray, List.set_cons_zero, List.set_cons_succ, i64_w, i32_w]
              rfl
            refine pure_ (i := 16) (N := some 48) (v := ?_) (a' := ?_) #[true, true, true, true, false, true, false, false, false, true, true, true, false, true, true, true, true, false, false, false, false, false, false, false, false, false, false, false] rfl rfl (by kernel_rfl) (fun _ _ _ h => h) (Or.inl ⟨by rfl, ?_⟩) ?_ ?_
            rotate_left
            · intro w'
              go_simp
              with_reducible rfl
            rotate_left
            · simp only [Act.put, List.setIfInBounds_toArray, List.set_cons_zero, List.set_cons_succ, i64_w, i32_w]
              rfl
            refine pure_ (i := 18) (N := some 50) (v := ?_) (a' := ?_) #[true, true, true, true, false, true, false, false, false, true, true, true, false, true, true, true, true, false, true, false, false, false, false, false, false, false, false, false] rfl rfl (by kernel_rfl) (fun _ _ _ h => h) (Or.inl ⟨by rfl, ?_⟩) ?_ ?_
            rotate_left
            · intro w'
              go_simp
              with_reducible rfl
            rotate_left
            · simp only [Act.put, List.setIfInBounds_toArray, List.set_cons_zero, List.set_cons_succ, i64_w, i32_w]
              rfl
            refine pure_ (i := 22) (N := some 54) (v := ?_) (a' := ?_) #[true, true, true, true, false, true, false, false, false, true, true, true, false, true, true, true, true, false, true, false, false, false, true, false, false, false, false, false] rfl rfl (by kernel_rfl) (fun _ _ _ h => h) (Or.inl ⟨by rfl, ?_⟩) ?_ ?_
            rotate_left
            · intro w'
              go_simp
              with_reducible rfl
            rotate_left
            · simp only [Act.put, List.setIfInBounds_toArray, List.set_cons_zero, List.set_cons_succ, i64_w, i32_w]
              rfl
            refine pure_ (i := 23) (N := some 55) (v := ?_) (a' := ?_) #[true, true, true, true, false, true, false, false, false, true, true, true, false, true, true, true, true, false, true, false, false, false, true, true, false, false, false, false] rfl rfl (by kernel_rfl) (fun _ _ _ h => h) (Or.inl ⟨by rfl, ?_⟩) ?_ ?_
            rotate_left
            · intro w'
              go_simp
              with_reducible rfl
            rotate_left
            · simp only [Act.put, List.setIfInBounds_toArray, List.set_cons_zero, List.set_cons_succ, i64_w, i32_w]
              rfl
            refine pure_ (i := 24) (N := some 56) (v := ?_) (a' := ?_) #[true, true, true, true, false, true, false, false, false, true, true, true, false, true, true, true, true, false, true, false, false, false, true, true, true, false, false, false] rfl rfl (by kernel_rfl) (fun _ _ _ h => h) (Or.inl ⟨by rfl, ?_⟩) ?_ ?_
            rotate_left
            · intro w'
              go_simp
              with_reducible rfl
            rotate_left
            · simp only [Act.put, List.setIfInBounds_toArray, List.set_cons_zero, List.set_cons_succ, i64_w, i32_w]
              rfl
            refine take_ (i := 4) (N := some 36) (v := ?_) (a' := ?_) #[true, true, true, true, true, true, false, false, false, true, true, true, false, true, true, true, true, false, true, false, false, false, true, true, true, false, false, false] rfl rfl (by kernel_rfl) (fun _ _ _ h => h) (Or.inl ⟨by rfl, ?_⟩) hHeld ?_ ?_
            rotate_left
            · rintro w' ⟨s0, s1, s2⟩
              go_simp
              with_reducible rfl
            rotate_left
            · simp only [Act.put, List.setIfInBounds_toArray, List.set_cons_zero, List.set_cons_succ, i64_w, i32_w]
              rfl
            refine pure_ (i := 6) (N := some 38) (v := ?_) (a' := ?_) #[true, true, true, true, true, true, true, false, false, true, true, true, false, true, true, true, true, false, true, false, false, false, true, true, true, false, false, false] rfl rfl (by kernel_rfl) (fun _ _ _ h => h) (Or.inl ⟨by rfl, ?_⟩) ?_ ?_
            rotate_left
            · intro w'
              go_simp
              with_reducible rfl
            rotate_left
            · simp only [Act.put, List.setIfInBounds_toArray, List.set_cons_zero, List.set_cons_succ, i64_w, i32_w]
              rfl
            refine pure_ (i := 7) (N := some 39) (v := ?_) (a' := ?_) #[true, true, true, true, true, true, true, true, false, true, true, true, false, true, true, true, true, false, true, false, false, false, true, true, true, false, false, false] rfl rfl (by kernel_rfl) (fun _ _ _ h => h) (Or.inl ⟨by rfl, ?_⟩) ?_ ?_
            rotate_left
            · intro w'
              go_simp
              with_reducible rfl
            rotate_left
            · simp only [Act.put, List.setIfInBounds_toArray, List.set_cons_zero, List.set_cons_succ, i64_w, i32_w]
              rfl
            refine take_ (i := 8) (N := some 40) (v := ?_) (a' := ?_) #[true, true, true, true, true, true, true, true, true, true, true, true, false, true, true, true, true, false, true, false, false, false, true, true, true, false, false, false] rfl rfl (by kernel_rfl) (fun _ _ _ h => h) (Or.inl ⟨by rfl, ?_⟩) hHeld ?_ ?_
            rotate_left
            · rintro w' ⟨s0, s1, s2⟩
              go_simp
              with_reducible rfl
            rotate_left
            · simp only [Act.put, List.setIfInBounds_toArray, List.set_cons_zero, List.set_cons_succ, i64_w, i32_w]
              rfl
            refine take_ (i := 17) (N := some 49) (v := ?_) (a' := ?_) #[true, true, true, true, true, true, true, true, true, true, true, true, false, true, true, true, true, true, true, false, false, false, true, true, true, false, false, false] rfl rfl (by kernel_rfl) (fun _ _ _ h => h) (Or.inl ⟨by rfl, ?_⟩) hHeld ?_ ?_
            rotate_left
            · rintro w' ⟨s0, s1, s2⟩
              go_simp
              with_reducible rfl
            rotate_left
            · simp only [Act.put, List.setIfInBounds_toArray, List.set_cons_zero, List.set_cons_succ, i64_w, i32_w]
              rfl
            refine pure_ (i := 19) (N := some 51) (v := ?_) (a' := ?_) #[true, true, true, true, true, true, true, true, true, true, true, true, false, true, true, true, true, true, true, true, false, false, true, true, true, false, false, false] rfl rfl (by kernel_rfl) (fun _ _ _ h => h) (Or.inl ⟨by rfl, ?_⟩) ?_ ?_
            rotate_left
            · intro w'
              go_simp
              with_reducible rfl
            rotate_left
            · simp only [Act.put, List.setIfInBounds_toArray, List.set_cons_zero, List.set_cons_succ, i64_w, i32_w]
              rfl
            refine pure_ (i := 20) (N := some 52) (v := ?_) (a' := ?_) #[true, true, true, true, true, true, true, true, true, true, true, true, false, true, true, true, true, true, true, true, true, false, true, true, true, false, false, false] rfl rfl (by kernel_rfl) (fun _ _ _ h => h) (Or.inl ⟨by rfl, ?_⟩) ?_ ?_
            rotate_left
            · intro w'
              go_simp
              with_reducible rfl
            rotate_left
            · simp only [Act.put, List.setIfInBounds_toArray, List.set_cons_zero, List.set_cons_succ, i64_w, i32_w]
              rfl
            refine take_ (i := 21) (N := some 53) (v := ?_) (a' := ?_) #[true, true, true, true, true, true, true, true, true, true, true, true, false, true, true, true, true, true, true, true, true, true, true, true, true, false, false, false] rfl rfl (by kernel_rfl) (fun _ _ _ h => h) (Or.inl ⟨by rfl, ?_⟩) hHeld ?_ ?_
            rotate_left
            · rintro w' ⟨s0, s1, s2⟩
              go_simp
              with_reducible rfl
            rotate_left
            · simp only [Act.put, List.setIfInBounds_toArray, List.set_cons_zero, List.set_cons_succ, i64_w, i32_w]
              rfl
            refine one_ (i := 12) (N := some 44) #[true, true, true, true, true, true, true, true, true, true, true, true, true, true, true, true, true, true, true, true, true, true, true, true, true, false, false, false] rfl rfl (by kernel_rfl) (by decide) (fun K hK => ?_)
            refine goes_ Try.func18 (by kernel_rfl) rfl #[.pointer (some ⟨F.p, 0, none⟩), .int .i64 kn.l, .int .i64 (wrap64 ((kn.o : Int) + 1)), .map (some mb)] (by rfl) rfl rfl (by simp only [List.map_toArray, List.map_cons, List.map_nil]; rfl) ?_
            with_reducible refine (HJ1.out _ HF.out.drew (HS.out.same rfl)).mono ?_
            rintro e V ⟨rfl, hV1, hV2⟩
            refine ⟨_, rfl, ?_⟩
            have HV1 := Lib.hid hV1
            have HV2 := Lib.hid (grown_drew hV2)
            have HFV := Lib.hid (HF.out.grown HV2.out HAM.out)
            clear hV1
            refine hK.out _ _ ⟨cell_grown' hHeld.1 hV2 hmF, cell_grown' hHeld.2.1 hV2 hmK, cell_grown' hHeld.2.2 hV2 hmK⟩ (fun hHeld => ?_)
            clear hK K
            refine norm_ (a' := ?_) ?_ ?_
            rotate_left
            · show Act.put _ (some 44) _ = _
              simp only [Act.put, List.setIfInBounds_toArray, List.set_cons_zero, List.set_cons_succ, i64_w, i32_w]
              rfl
            refine one_ (i := 25) (N := some 57) #[true, true, true, true, true, true, true, true, true, true, true, true, true, true, true, true, true, true, true, true, true, true, true, true, true, true, false, false] rfl rfl (by kernel_rfl) (by decide) (fun K hK => ?_)
            refine goes_ Try.func18 (by kernel_rfl) rfl #[.pointer (some ⟨F.p, 0, none⟩), .int .i64 kn.h, .int .i64 (wrap64 ((kn.o : Int) + 1)), .map (some mb)] (by rfl) rfl rfl (by simp only [List.map_toArray, List.map_cons, List.map_nil]; rfl) ?_
            with_reducible refine (HJ2.out _ HFV.out HV1.out).mono ?_
            rintro e W7 ⟨rfl, hW1, hW2⟩
            refine ⟨_, rfl, ?_⟩
            have HW1 := Lib.hid hW1
            have HW2 := Lib.hid (HV2.out.trans hW2)
            clear hW1
            refine hK.out _ _ ⟨cell_grown' hHeld.1 hW2 hmF, cell_grown' hHeld.2.1 hW2 hmK, cell_grown' hHeld.2.2 hW2 hmK⟩ (fun hHeld => ?_)
            clear hK K
            refine norm_ (a' := ?_) ?_ ?_
            rotate_left
            · show Act.put _ (some 57) _ = _
              simp only [Act.put, List.setIfInBounds_toArray, List.set_cons_zero, List.set_cons_succ, i64_w, i32_w]
              rfl
            refine pure_ (i := 26) (N := some 58) (v := ?_) (a' := ?_) #[true, true, true, true, true, true, true, true, true, true, true, true, true, true, true, true, true, true, true, true, true, true, true, true, true, true, true, false] rfl rfl (by kernel_rfl) (fun _ _ _ h => h) (Or.inl ⟨by rfl, ?_⟩) ?_ ?_
            rotate_left
            · intro w'
              go_simp
              with_reducible rfl
            rotate_left
            · simp only [Act.put, List.setIfInBounds_toArray, List.set_cons_zero, List.set_cons_succ, i64_w, i32_w]
              rfl
            refine pure_ (i := 27) (N := some 10) (v := ?_) (a' := ?_) #[true, true, true, true, true, true, true, true, true, true, true, true, true, true, true, true, true, true, true, true, true, true, true, true, true, true, true, true] rfl rfl (by kernel_rfl) (fun _ _ _ h => h) (Or.inl ⟨by rfl, ?_⟩) ?_ ?_
            rotate_left
            · intro w'
              go_simp
              with_reducible rfl
            rotate_left
            · simp only [Act.put, List.setIfInBounds_toArray, List.set_cons_zero, List.set_cons_succ, i64_w, i32_w]
              rfl
            refine done_ (by kernel_rfl) ?_
            refine calm_normal ?_
            go_wp2_with fail
            go_meet
            exact ⟨by rw [HWR.out], Lib.hid (HW1.out.imp (by rw [HCOST.out]; omega) (fun _ _ h => h)), HW2⟩
        case rest =>
          obtain ⟨rfl, HS2, HG2⟩ := hcut
          obtain ⟨wb, rfl⟩ : ∃ wb : World, wb = wc := ⟨_, rfl⟩
          have hpos : 1 ≤ costJ (d + 1) := by rw [costJ_s]; omega
          obtain ⟨wS, hrS, hkS, hgS⟩ := Sound.store HS2.out (by omega) law3 Try.underlying61 (key3 (n := n) (by omega)) (Sm.nat HW40.out).wf (cs_self (K := Ks) (n := n))
          have HS3 : Hid (Sound wS 3 mb (cm + costJ (d + 1)) (CS Ks)) := Lib.hid (hkS.imp (by omega) (fun _ _ h => h))
          have HG3 := Lib.hid (HG2.out.trans hgS)
          clear hkS hgS hpos
          go_wp2_with fail
          go_meet
          exact ⟨rfl, HS3, HG3⟩
      · obtain rfl : x = ((wy Ks n : Nat) : Int) := HSS.out rfl n (by omega) rfl
        have HS2 : Hid (Sound w 3 mb (cm + costJ (d + 1)) (CS Ks)) := Lib.hid (HS.out.imp (by omega) (fun _ _ h => h))
        go_wp2_with fail
        go_meet
        exact ⟨rfl, HS2, World.grownBy.refl _ _⟩
    case rest =>
      obtain ⟨rfl, HS2, HG2⟩ := hcut
      have hsh := HSH.out
      go_wp2_with fail
      go_ret
      exact ⟨by rw [HLV.out]; simp, HS2.out, HG2.out⟩
theorem count_any {N : Nat} (hN : N ≤ 40) : ∀ d, CountOk N d := by
  intro d
  induction d with
  | zero => exact count_step hN (fun d' h => absurd h (by omega))
  | succ d ih => exact count_step hN (fun d' h => Nat.succ.inj h ▸ ih)
end Go.Proofs.Ytiglkpgoakibaaa
