/- The knots of a node (knotsOf): the walk. Condition: the forest lies there. -/
import Derived.Test.YtiglkpgoakibaaaWalk
import Derived.Test.YtiglkpgoakibaaaNew
namespace Go.Proofs.Ytiglkpgoakibaaa
open Go.RowKit Go.Maps PTopKnots Go.Proofs.YtiglkpgoakibaaaW.PrintWords
set_option linter.unusedVariables false
set_option linter.unusedSimpArgs false

theorem walk_any {N : Nat} (hN : N ≤ 40) : ∀ d, WalkOk N d := by
  intro d
  induction d with
  | zero => exact walk_step hN (fun d' h => absurd h (by omega))
  | succ d ih => exact walk_step hN (fun d' h => Nat.succ.inj h ▸ ih)
theorem results_c1t {P : Program} {fn : Func} {p u : Tmp} {ty : TypeId} (h : fn.results = #[.cell p ty, .tmp u]) (tmps : Array Value) (w : World) (a : Addr) (v : Value) (hp : tmps.getD p undef = .pointer (some a)) (hl : (loadVar ty a).run P w = .ok v w) :
    (results fn tmps).run P w = .ok (.tuple #[v, tmps.getD u undef]) w := by
  have hp' : tmps[p]?.getD undef = .pointer (some a) := by simpa using hp
  simp [results, h, hp', asAddr, hl]
theorem load34 (w : World) (a : Addr) (v : Value) (hc : w.cell? a = some v) : (loadVar 34 a).run Try.prog w = .ok v w := by
  have hu := Try.underlying34
  go_simp
theorem key_nat {a n : Nat} (h : Lit.int .i64 (a : Int) = Lit.int .i64 (n : Int)) : n = a := by
  have : (a : Int) = (n : Int) := by injection h
  omega
theorem run_mm' (t : TypeId) (w : World) : (Instr.makeMap t none).run Try.prog w = .ok (.map (some w.heap.size)) (w.alloc (.map #[] 0)) := rfl
theorem run_store_func (w : World) (a : Addr) (m : Mode) (fn : Fn) (x y : Array Value) : (store a (.func fn x y) m).run Try.prog w = stored Try.prog w a (.func fn x y) m := run_store Try.prog w a _ m rfl
attribute [local go_sem] run_mm' run_store_func
theorem knots_any {w : World} {F : Fb} {N c : Nat} {Ks : List Kn} (hN : N ≤ 40) (hf : Fo w F N Ks c) (hc : c ≤ 1073741824) (hwc : wcost N ≤ 1000000) {n : Nat} (hn : n < Ks.length) :
    Calls Try.prog 21 #[.pointer (some ⟨F.p, 0, none⟩), .int .i64 n] w fun e w' => ∃ (x : Int) (idx : List Nat) (R : List Kr) (v : Value), e = .returned (.tuple #[v, .int .i64 x]) ∧ Below w.heap.size w w' ∧ w'.ownsRow w.heap.size 44 3 v R.length (R.flatMap rcl) ∧ Rk Ks idx R ∧ En idx x n ∧ R.length ≤ wcost N := by
  have hmf : ∀ (fn : Fn) (first cap : Array Value) (w : World), (Instr.makeFunc fn first cap).run Try.prog w = .ok (.func fn first cap) w := fun _ _ _ _ => rfl
  obtain ⟨w2, hw2⟩ : ∃ w2, (w.alloc (.cells #[.pointer (some ⟨F.p, 0, none⟩)] 55)).alloc (.cells #[.slice none 0 0] 34) = w2 := ⟨_, rfl⟩
  have z2 : w2.heap.size = w.heap.size + 1 + 1 := by rw [← hw2]; simp
  have hB2 : Below w.heap.size w w2 := by rw [← hw2]; exact ((Below.refl _ w).alloc (Nat.le_refl _) _).alloc (by simp) _
  have k2 : w2.heap[w.heap.size]? = some (.cells #[.pointer (some ⟨F.p, 0, none⟩)] 55 (0, 0)) := by rw [← hw2]; exact allocOld (allocNew _ _ _ rfl) _
  have k4 : w2.heap[w.heap.size + 1]? = some (.cells #[.slice none 0 0] 34 (0, 0)) := by rw [← hw2]; exact allocNew _ _ _ (by simp)
  have m0 : SoundH (w2.alloc (.map #[] 0)) 3 w2.heap.size 0 (MS []) (fun _ => False) := (Sound.made w2 3 _).toH
  obtain ⟨w3, hr3, m3, hg3⟩ := SoundH.store m0 (by omega) law3 Try.underlying61 (key3 (n := 0) (by omega)) (x := -1) (by decide) (fun n _ e => .inl ⟨rfl, key_nat e⟩)
  obtain ⟨w4, hr4, m4, hg4⟩ := SoundH.store m3 (by omega) law3 Try.underlying61 (key3 (n := 1) (by omega)) (x := -2) (by decide) (fun n _ e => .inr (.inl ⟨rfl, key_nat e⟩))
  have hr3' : (Instr.mapUpdate 61 (.map (some w2.heap.size)) (.int .i64 0) (.int .i64 (-1))).run Try.prog (w2.alloc (.map #[] 0)) = .ok () w3 := hr3
  have hr4' : (Instr.mapUpdate 61 (.map (some w2.heap.size)) (.int .i64 1) (.int .i64 (-2))).run Try.prog w3 = .ok () w4 := hr4
  have M4 : Hid (SoundH w4 3 w2.heap.size 2 (MS []) MH) := Lib.hid (m4.imp (Nat.le_refl _) (fun _ _ h => h) (fun k h => h.elim (fun h => .inl (.inr h)) (fun h => .inr h)))
  have z3 : w2.heap.size + 1 ≤ w3.heap.size := by have := hg3.size; simpa using this
  have z4 := hg4.size
  have hkeep : ∀ b, b < w2.heap.size → w4.heap[b]? = w2.heap[b]? := fun b hb => (hg4.block b (by omega) (fun e => by have := Option.some.inj e; omega)).trans ((hg3.block b (by simp; omega) (fun e => by have := Option.some.inj e; omega)).trans (Below.heap_alloc w2 _ b hb))
  have HF := Lib.hid hf
  have HZ2 := Lib.hid z2
  have HB2 := Lib.hid hB2
  have K2 := Lib.hid ((hkeep _ (by omega)).trans k2)
  have K4 := Lib.hid ((hkeep _ (by omega)).trans k4)
  have HG : Hid (w2.os = w4.os ∧ w2.tape = w4.tape ∧ w2.output = w4.output) := ⟨(hg4.os.trans hg3.os).symm, (hg4.tape.trans hg3.tape).symm, (hg4.output.trans hg3.output).symm⟩
  have HKEEP := Lib.hid hkeep
  have HZ3 := Lib.hid z3
  have HZ4 := Lib.hid z4
  have hw2' := hw2
  obtain ⟨w6, hw6⟩ : ∃ w6, (w4.alloc (.cells #[.map (some w2.heap.size)] 61)).alloc (.cells #[.nilFunc] 79) = w6 := ⟨_, rfl⟩
  have hB6 : Below w4.heap.size w4 w6 := by rw [← hw6]; exact ((Below.refl _ w4).alloc (Nat.le_refl _) _).alloc (by simp) _
  have k6 : w6.heap[w4.heap.size]? = some (.cells #[.map (some w2.heap.size)] 61 (0, 0)) := by rw [← hw6]; exact allocOld (allocNew _ _ _ rfl) _
  have k7 : w6.heap[w4.heap.size + 1]? = some (.cells #[.nilFunc] 79 (0, 0)) := by rw [← hw6]; exact allocNew _ _ _ (by simp)
  have c7 : w6.cell? ⟨w4.heap.size + 1, 0, none⟩ = some .nilFunc := (blk_cell' k7 0).trans rfl
  have f7 : w6.frozen? ⟨w4.heap.size + 1, 0, none⟩ = false := blk_frozen' k7 0
  obtain ⟨w7, hw7⟩ : ∃ w7, w6.setCell ⟨w4.heap.size + 1, 0, none⟩ (.func (.func 33) #[] #[.pointer (some ⟨w4.heap.size, 0, none⟩), .pointer (some ⟨w.heap.size, 0, none⟩), .pointer (some ⟨w4.heap.size + 1, 0, none⟩), .pointer (some ⟨w.heap.size + 1, 0, none⟩)]) = w7 := ⟨_, rfl⟩
  have hB7 : Below w4.heap.size w6 w7 := by rw [← hw7]; exact ⟨rfl, rfl, rfl, by simp [World.setCell], fun b hb => Below.heap_setCell _ _ _ _ (by show b ≠ w4.heap.size + 1; omega)⟩
  have k67 : w7.heap[w4.heap.size]? = some (.cells #[.map (some w2.heap.size)] 61 (0, 0)) := by rw [← hw7]; exact (Below.heap_setCell _ _ _ _ (by show w4.heap.size ≠ w4.heap.size + 1; omega)).trans k6
  have k77 : w7.heap[w4.heap.size + 1]? = some (.cells #[.func (.func 33) #[] #[.pointer (some ⟨w4.heap.size, 0, none⟩), .pointer (some ⟨w.heap.size, 0, none⟩), .pointer (some ⟨w4.heap.size + 1, 0, none⟩), .pointer (some ⟨w.heap.size + 1, 0, none⟩)]] 79 (0, 0)) := by rw [← hw7]; exact heap_setCell_same _ _ 0 _ _ _ k7
  have hB47 := hB6.trans hB7
  have c77 := (blk_cell' k77 0).trans rfl
  have K67 := Lib.hid k67
  have K77 := Lib.hid k77
  have HB47 := Lib.hid hB47
  have hE7 : Env w7 F w.heap.size w.heap.size (w.heap.size + 1) w4.heap.size (w4.heap.size + 1) w2.heap.size 2 Ks [] [] (.slice none 0 0) :=
    { h2 := (hB47.block _ (by omega)).trans K2.out
      h4 := (hB47.block _ (by omega)).trans K4.out
      h6 := k67
      h7 := k77
      memo := M4.out.same (hB47.block _ M4.out.sound.lt)
      row := World.ownsRow_nil _ _ _ _
      rk := ⟨rfl, fun i r hr => by simp at hr⟩
      n1 := by have := hf.pl; omega
      n2 := by have := hf.kl; omega
      n3 := by have := hf.pl; omega
      n4 := by have := hf.kl; omega
      B2 := by omega
      B4 := by omega
      B6 := by omega
      B7 := by omega
      Bm := by omega }
  have hB07 : Below w.heap.size w w7 := by
    have h24 : Below w.heap.size w2 w4 := ⟨HG.out.1.symm, HG.out.2.1.symm, HG.out.2.2.symm, by omega, fun b hb => HKEEP.out b (by omega)⟩
    exact (hB2.trans h24).trans (hB47.mono (by omega))
  have hF7 : Fo w7 F N Ks c := hf.below hB07
  have hcall := walk_any hN N w7 F Ks c w.heap.size w.heap.size (w.heap.size + 1) w4.heap.size (w4.heap.size + 1) w2.heap.size 2 n [] [] (.slice none 0 0) hF7 hc hf.pl hf.kl hf.kn.lt hf.jo.lt hB07.size hE7 (by omega) (by simp; omega) hn (Nat.sub_le _ _)
  have HCALL := Lib.hid hcall
  have HB07 := Lib.hid hB07
  clear hcall hB07 hF7 hE7 hB6 hB7 hB47 k6 k7 k67 k77 hf m0 m3 m4 hg3 hg4 hr3 hr4 k2 k4 hB2 z2 hkeep z3 z4 hw2
  go_enter Try.func21, Try.ntmps21
  go_wp2_with fail
  refine HCALL.out.mono ?_
  rintro e w8 ⟨x, t, R, v, rfl, hE8, hen, hl8, hW8, _⟩
  have r4 : w8.cell? ⟨w.heap.size + 1, 0, none⟩ = some v := (blk_cell' hE8.h4 0).trans rfl
  have r4z : w8.frozen? ⟨w.heap.size + 1, 0, none⟩ = false := blk_frozen' hE8.h4 0
  have hfin : ∀ w', w8.grownBy w' (some (w.heap.size + 1)) → Below w.heap.size w w' ∧ w'.ownsRow w.heap.size 44 3 v R.length (R.flatMap rcl) ∧ Rk Ks t R ∧ En t x n ∧ R.length ≤ wcost N := fun w' hg => by
    refine ⟨?_, hE8.row.kept hg (.inr fun e => own_ne hE8.row hE8.h4 (by decide) e.symm), by have := hE8.rk; rwa [List.nil_append] at this, by rwa [List.nil_append] at hen, by simpa using hl8⟩
    have h1 : Below w.heap.size w7 w8 := hW8.below HB07.out.size (by omega) hE8.Bm (fun b h => by cases h)
    have h2 : Below w.heap.size w8 w' := ⟨hg.os, hg.tape, hg.output, hg.size, fun b hb => hg.block b (by have := h1.size; have := HB07.out.size; omega) (fun e => by have := Option.some.inj e; omega)⟩
    exact (HB07.out.trans h1).trans h2
  have HFIN := Lib.hid hfin
  obtain ⟨A, cv, hv⟩ : ∃ A cv, v = .slice A R.length cv := by
    rcases Joins.ownsRow_forms hE8.row with ⟨a, b⟩ | ⟨g, c', a⟩
    · exact ⟨none, 0, by rw [b]; exact a⟩
    · exact ⟨_, _, a⟩
  subst hv
  have H84 := Lib.hid hE8.h4
  clear hfin hE8 hen hl8 hW8 c77 c7 f7
  go_wp2_with fail
  refine bodyPost_ret (results_c1t rfl _ _ ⟨w.heap.size + 1, 0, none⟩ (.slice A R.length cv) rfl (load34 _ _ _ ?_)) rfl ?_
  · exact (blk_cell' (heap_setCell_same _ _ 0 _ _ _ H84.out) 0).trans rfl
  · exact ⟨x, t, R, _, rfl, HFIN.out _ (grown_set _ _ _)⟩
end Go.Proofs.Ytiglkpgoakibaaa
