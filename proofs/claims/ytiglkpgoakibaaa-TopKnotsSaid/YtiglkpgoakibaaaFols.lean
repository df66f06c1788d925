/- A variant is followed through a diagram (Follow): the walk. Condition: the model is good, the diagram is one of it, the variant is read. The example of the chapter is counted (counts); the closure of the law (at): the walks. Condition of the second: what it captures. The closure of the law (at): the walk. Condition: what it captures. -/
import Derived.Test.YtiglkpgoakibaaaEnds
import Derived.BigQuiet
namespace Go.Proofs.Ytiglkpgoakibaaa
open Go.RowKit Go.Maps PTopKnots Go.Proofs.YtiglkpgoakibaaaW.PrintWords
set_option linter.unusedVariables false
set_option linter.unusedSimpArgs false

def s44 (r : Kr) : S44 := ⟨(r.o : Int), r.l, r.h⟩
/-- Knots that are read. -/
structure RK (w : World) (A : Option Addr) (kb : Nat) (R : List Kr) : Prop where
  hA : 0 < R.length → A = some ⟨kb, 0, none⟩
  hc : ∀ i r, R[i]? = some r → w.cell? ⟨kb, i * 3, none⟩ = some (.int .i64 (r.o : Nat)) ∧ w.cell? ⟨kb, i * 3 + 1, none⟩ = some (.int .i64 r.l) ∧ w.cell? ⟨kb, i * 3 + 2, none⟩ = some (.int .i64 r.h)
theorem RK.below {w w' : World} {A : Option Addr} {kb : Nat} {R : List Kr} (h : RK w A kb R) (hb : Below w.heap.size w w') : RK w' A kb R :=
  ⟨h.hA, fun i r hr => by
    obtain ⟨h0, h1, h2⟩ := h.hc i r hr
    exact ⟨pw_cell_below hb h0, pw_cell_below hb h1, pw_cell_below hb h2⟩⟩
theorem RdB.below {w w' : World} {A : Option Addr} {g off : Nat} {xs : List Bool} (h : RdB w A g off xs) (hb : Below w.heap.size w w') : RdB w' A g off xs :=
  ⟨h.hA, fun j x hx => pw_cell_below hb (h.hc j x hx)⟩
theorem RK.C {w : World} {A : Option Addr} {kb : Nat} {R : List Kr} (h : RK w A kb R) (hl : R.length ≤ 2000) : Kd.C k44 w A R.length (R.map s44) := by
  refine ⟨by simp, by omega, fun h0 => ⟨⟨kb, 0, none⟩, h.hA h0, fun j p hp => ?_⟩⟩
  rw [List.getElem?_map] at hp
  obtain ⟨r, hr, rfl⟩ := Option.map_eq_some_iff.1 hp
  obtain ⟨h0, h1, h2⟩ := h.hc j r hr
  refine ⟨_, rfl, k44_mk w (s44 r), fun i u hu => ?_⟩
  have hi := (List.getElem?_eq_some_iff.1 hu).1
  have e : k44.sz = 3 := rfl
  change i < 3 at hi
  rw [e]
  rcases (show i = 0 ∨ i = 1 ∨ i = 2 by omega) with rfl | rfl | rfl
  · cases hu
    have : (⟨kb, 0, none⟩ : Addr).add (j * 3 + 0) = ⟨kb, j * 3, none⟩ := by simp [Addr.add]; omega
    rw [this]; exact h0
  · cases hu
    have : (⟨kb, 0, none⟩ : Addr).add (j * 3 + 1) = ⟨kb, j * 3 + 1, none⟩ := by simp [Addr.add]
    rw [this]; exact h1
  · cases hu
    have : (⟨kb, 0, none⟩ : Addr).add (j * 3 + 2) = ⟨kb, j * 3 + 2, none⟩ := by simp [Addr.add]
    rw [this]; exact h2
/-- Where a knot leads to. -/
def To (R : List Kr) (i : Nat) (o : Nat) (y : Int) : Prop := y = -1 ∨ y = -2 ∨ ∃ (j : Nat) (r' : Kr), y = j ∧ j < i ∧ R[j]? = some r' ∧ o < r'.o
theorem to_of {N : Nat} {Ks : List Kn} {idx : List Nat} {R : List Kr} (hw : WF N Ks) (hk : Rk Ks idx R) {i : Nat} {o q : Nat} {y : Int} (he : En (idx.take i) y q) (hq : o < lv Ks q) : To R i o y := by
  rcases he with h | h | ⟨j, h1, h2⟩
  · exact .inl h.1
  · exact .inr (.inl h.1)
  · have hj := (List.getElem?_eq_some_iff.1 h2).1
    rw [List.length_take] at hj
    have hl := hk.len
    rw [List.getElem?_take_of_lt (by omega)] at h2
    obtain ⟨r', hr'⟩ : ∃ r', R[j]? = some r' := ⟨_, List.getElem?_eq_getElem (by omega)⟩
    obtain ⟨n', k', a1, a2, a3, a4, _⟩ := hk.kn j r' hr'
    rw [h2] at a1
    cases a1
    exact .inr (.inr ⟨j, r', h1, by omega, hr', by rw [a4, ← lv_of a3]; exact hq⟩)
theorem Rk.leads {N : Nat} {Ks : List Kn} {idx : List Nat} {R : List Kr} (hw : WF N Ks) (hk : Rk Ks idx R) {i : Nat} {r : Kr} (hr : R[i]? = some r) : r.o < N ∧ To R i r.o r.l ∧ To R i r.o r.h := by
  obtain ⟨n, k, a1, a2, a3, a4, a5, a6⟩ := hk.kn i r hr
  obtain ⟨b0, b1, b2, b3, b4, b5⟩ := hw.kn n k a2 a3
  rw [a4]
  exact ⟨b0, to_of hw hk a5 b4, to_of hw hk a6 b5⟩
theorem rdT_at {R : List Kr} {i : Nat} {r : Kr} (h : R[i]? = some r) : rd_T44 (R.map s44) (i : Int) = s44 r := by
  unfold rd_T44
  rw [Int.toNat_natCast, List.getD_eq_getElem?_getD, List.getElem?_map, h]
  rfl
theorem leads_f (ns : List ByteArray) (rs : List (List Int)) {R : List Kr} {i : Nat} {r : Kr} (hr : R[i]? = some r) {y : Int} (h : To R i r.o y) : options_leads.f ns rs (R.map s44) (i : Int) y = some true := by
  have hi := (List.getElem?_eq_some_iff.1 hr).1
  unfold options_leads.f
  rcases h with rfl | rfl | ⟨j, r', rfl, hj, hr', ho⟩
  · rw [if_pos rfl]
  · rw [if_neg (by decide), if_pos rfl]
  · have hjl := (List.getElem?_eq_some_iff.1 hr').1
    rw [if_neg (by omega), if_neg (by omega), if_pos (by omega), if_pos (by omega), if_pos (by omega), if_pos (by simp; omega), if_pos (by omega), if_pos (by simp; omega), rdT_at hr', rdT_at hr]
    have : decide ((s44 r').f0 > (s44 r).f0) = true := decide_eq_true (by simp only [s44]; omega)
    rw [this]
theorem vf_at {xs : List Bool} {o : Nat} {b : Bool} (h : xs[o]? = some b) : vf xs o = b := by
  unfold vf
  rw [List.getD_eq_getElem?_getD, h]
  rfl
set_option maxRecDepth 100000 in
set_option maxHeartbeats 1000000 in
theorem fol_any {w : World} {B c0 g off c1 kb ck gv ov cv : Nat} {A0 A1 Ak Av : Option Addr} {ns : List ByteArray} {rs rs' : List (List Int)} {f : List Int} {Ks : List Kn} {n : Nat} {idx : List Nat} {R : List Kr} {x : Int} {xs : List Bool}
    (hM : Mo w B A0 c0 A1 g off c1 ns rs) (hK1 : Kd.C (Kd.slice 3 (Kd.int .i64)) w A1 rs.length rs) (hc1 : rs.length ≤ c1) (hD : Dg ns.length rs' f Ks n idx R x) (hR : RK w Ak kb R) (hck : R.length ≤ ck) (hV : RdB w Av gv ov xs) (hxl : xs.length = ns.length) :
    Calls Try.prog 13 #[.agg #[.slice A0 ns.length c0, .slice A1 rs.length c1], .slice Ak R.length ck, .int .i64 x, .slice Av ns.length cv] w fun e w' => e = .returned (.tuple #[.bool (ev Ks n (vf xs)), .int .i64 0]) ∧ Below w.heap.size w w' := by
  obtain ⟨m, hm⟩ : ∃ m, ns.length = m := ⟨_, rfl⟩
  obtain ⟨q, hq⟩ : ∃ q, rs.length = q := ⟨_, rfl⟩
  obtain ⟨l, hl⟩ : ∃ l, R.length = l := ⟨_, rfl⟩
  obtain ⟨w1, hw1⟩ : ∃ w1, w.alloc (.cells #[.slice A0 m c0, .slice A1 q c1] 25) = w1 := ⟨_, rfl⟩
  have hB1 : Below w.heap.size w w1 := by rw [← hw1]; exact (Below.refl _ w).alloc (Nat.le_refl _) _
  have k0 : w1.heap[w.heap.size]? = some (.cells #[.slice A0 m c0, .slice A1 q c1] 25 (0, 0)) := by rw [← hw1]; exact allocNew _ _ _ rfl
  have p0 : w1.cell? ⟨w.heap.size, 0, none⟩ = some (.slice A0 m c0) := (blk_cell' k0 0).trans rfl
  have p1 : w1.cell? ⟨w.heap.size, 1, none⟩ = some (.slice A1 q c1) := (blk_cell' k0 1).trans rfl
  have HC : Hid (Calls Try.prog 23 #[.agg #[.slice A0 m c0, .slice A1 q c1]] w1 fun e w' => e = .returned (.int .i64 0) ∧ Below w1.heap.size w1 w') := by
    have h := checkM_any (hM.below hB1)
    rw [hm, hq] at h
    exact Lib.hid h
  have hlen := hD.len
  have hbnd := En.bound hD.rk hD.en
  have HLD : Hid (∀ W, Below w.heap.size w W → ∀ (i : Nat) (r : Kr) (y : Int), R[i]? = some r → To R i r.o y → Calls Try.prog 26 #[.agg #[.slice A0 m c0, .slice A1 q c1], .slice Ak l ck, .int .i64 i, .int .i64 y] W fun e w' => e = .returned (.bool true) ∧ Below W.heap.size W w') := Lib.hid fun W hW i r y hr hy => by
    have h := options_leads.calls A0 c0 ns A1 c1 rs Ak ck (R.map s44) i y true W (Kd.C_below hM.nc hW) hM.ncap (Kd.C_below hK1 hW) hc1 (by rw [List.length_map]; exact (hR.below hW).C hlen) (by rw [List.length_map]; exact hck) (leads_f ns rs hr hy)
    rw [List.length_map, hm, hq, hl] at h
    exact h
  have HB1 := Lib.hid hB1
  have HD := Lib.hid hD
  have HR := Lib.hid hR
  have HV := Lib.hid hV
  have HX := Lib.hid (hxl.trans hm)
  have HN := Lib.hid hm
  have HL := Lib.hid hl
  rw [hl] at hlen hbnd
  have d1 : decide ((2000 : Int) < (l : Int)) = false := decide_eq_false (by omega)
  have d2 : decide (x < -2) = false := decide_eq_false (by omega)
  have d3 : decide ((l : Int) ≤ x) = false := decide_eq_false (by omega)
  rw [hm, hq, hl]
  have hz1 : w.heap.size < w1.heap.size := blk_lt' k0
  clear hM hK1 hc1 hD hR hck hV hxl hB1 k0 hm hq hl hbnd
  go_enter Try.func13, Try.ntmps13
  go_wp2_with fail
  refine HC.out.mono ?_
  rintro e w2 ⟨rfl, h2⟩
  have HB2 := Lib.hid (HB1.out.trans (h2.mono HB1.out.size))
  have p0 : w2.cell? ⟨w.heap.size, 0, none⟩ = some (.slice A0 m c0) := pw_cell_below h2 p0
  have p1 : w2.cell? ⟨w.heap.size, 1, none⟩ = some (.slice A1 q c1) := pw_cell_below h2 p1
  have P0 := Lib.hid p0
  have P1 := Lib.hid p1
  have hz2 : w.heap.size < w2.heap.size := by have := h2.size; omega
  clear h2 hz1
  go_wp2_with fail
  go_loopw [42] (fun i wr => ∃ k : Nat, k ≤ l ∧ i = .int .i64 k ∧ Hid (Below w2.heap.size w2 wr)) (fun i _ => l - (intOf i).toNat)
  case atStart => exact ⟨0, Nat.zero_le _, rfl, Below.refl _ _⟩
  case round =>
    obtain ⟨k, hk, rfl, HB⟩ := hrel
    obtain ⟨wa, rfl⟩ : ∃ wa : World, wa = wr := ⟨_, rfl⟩
    by_cases hlt : k < l
    · obtain ⟨r, hr⟩ : ∃ r, R[k]? = some r := ⟨_, List.getElem?_eq_getElem (by rw [HL.out]; exact hlt)⟩
      have hBa : Below w.heap.size w wa := HB2.out.trans (HB.out.mono HB2.out.size)
      obtain ⟨c0', c1', c2'⟩ := (HR.out.below hBa).hc k r hr
      obtain rfl := HR.out.hA (by rw [HL.out]; omega)
      obtain ⟨hro, htl, hth⟩ := Rk.leads HD.out.wf HD.out.rk hr
      rw [HN.out] at hro
      obtain ⟨wb, hwb⟩ : ∃ wb, wa.alloc (.cells #[.int .i64 (r.o : Nat), .int .i64 r.l, .int .i64 r.h] 44) = wb := ⟨_, rfl⟩
      have hBb : Below wa.heap.size wa wb := by rw [← hwb]; exact (Below.refl _ wa).alloc (Nat.le_refl _) _
      have kb' : wb.heap[wa.heap.size]? = some (.cells #[.int .i64 (r.o : Nat), .int .i64 r.l, .int .i64 r.h] 44 (0, 0)) := by rw [← hwb]; exact allocNew _ _ _ rfl
      have HBb : Hid (Below w2.heap.size w2 wb) := Lib.hid (HB.out.trans (hBb.mono HB.out.size))
      have hBwb : Below w.heap.size w wb := HB2.out.trans (HBb.out.mono HB2.out.size)
      have p0 : wb.cell? ⟨w.heap.size, 0, none⟩ = some (.slice A0 m c0) := pw_cell_below HBb.out P0.out
      have p1 : wb.cell? ⟨w.heap.size, 1, none⟩ = some (.slice A1 q c1) := pw_cell_below HBb.out P1.out
      have r0 : wb.cell? ⟨wa.heap.size, 0, none⟩ = some (.int .i64 (r.o : Nat)) := (blk_cell' kb' 0).trans rfl
      have r1 : wb.cell? ⟨wa.heap.size, 1, none⟩ = some (.int .i64 r.l) := (blk_cell' kb' 1).trans rfl
      have r2 : wb.cell? ⟨wa.heap.size, 2, none⟩ = some (.int .i64 r.h) := (blk_cell' kb' 2).trans rfl
      have R0 := Lib.hid r0
      have R1 := Lib.hid r1
      have R2 := Lib.hid r2
      have e1 : decide (((r.o : Nat) : Int) < 0) = false := decide_eq_false (by omega)
      have e2 : decide ((m : Int) ≤ ((r.o : Nat) : Int)) = false := decide_eq_false (by omega)
      have e3 : decide (m ≤ r.o) = false := decide_eq_false (by omega)
      have HL1 := Lib.hid (HLD.out wb hBwb k r r.l hr htl)
      have HL2 : Hid (∀ wc, Below wb.heap.size wb wc → Calls Try.prog 26 #[.agg #[.slice A0 m c0, .slice A1 q c1], .slice (some ⟨kb, 0, none⟩) l ck, .int .i64 k, .int .i64 r.h] wc fun e w' => e = .returned (.bool true) ∧ Below wc.heap.size wc w') := Lib.hid fun wc hc => HLD.out wc (hBwb.trans (hc.mono hBwb.size)) k r r.h hr hth
      have hu44 := Try.underlying44
      have HK := Lib.hid kb'
      have HZ : Hid (wa.heap.size < wb.heap.size) := Lib.hid (blk_lt' kb')
      clear hr htl hth hBa hBwb hBb kb' hro
      go_wp2_with fail
      refine HL1.out.mono ?_
      rintro e wc ⟨rfl, hc⟩
      have HBc := Lib.hid (HBb.out.trans (hc.mono HBb.out.size))
      have p0 : wc.cell? ⟨w.heap.size, 0, none⟩ = some (.slice A0 m c0) := pw_cell_below HBc.out P0.out
      have p1 : wc.cell? ⟨w.heap.size, 1, none⟩ = some (.slice A1 q c1) := pw_cell_below HBc.out P1.out
      have r2 : wc.cell? ⟨wa.heap.size, 2, none⟩ = some (.int .i64 r.h) := pw_cell_below hc R2.out
      have HJ2 := Lib.hid (HL2.out wc hc)
      clear hc
      go_wp2_with fail
      refine HJ2.out.mono ?_
      rintro e wd ⟨rfl, hd⟩
      have HBd := Lib.hid (HBc.out.trans (hd.mono HBc.out.size))
      clear hd
      go_wp2_with fail
      exact ⟨⟨k + 1, by omega, by simp, HBd⟩, by simp [intOf]; omega⟩
    · obtain rfl : l = k := by omega
      clear hk
      have HBw := Lib.hid (HB2.out.trans (HB.out.mono HB2.out.size))
      obtain ⟨b, hb⟩ : ∃ b, ev Ks n (vf xs) = b := ⟨_, rfl⟩
      have HEV := Lib.hid hb
      clear hb
      go_wp2_with fail
      go_loopw [2] (fun i wr => ∃ (y : Int) (nn : Nat), i = .int .i64 y ∧ Hid (En idx y nn) ∧ Hid (ev Ks nn (vf xs) = b) ∧ Hid (Below w.heap.size w wr)) (fun i _ => (intOf i + 3).toNat)
      case atStart => exact ⟨x, n, rfl, HD.out.en, HEV.out, HBw.out⟩
      case round =>
        obtain ⟨y, nn, rfl, HEN, HEV2, HB3⟩ := hrel
        obtain ⟨wa2, rfl⟩ : ∃ wa2 : World, wa2 = wr := ⟨_, rfl⟩
        have HBy := Lib.hid HB3.out
        by_cases hy : 0 ≤ y
        · obtain ⟨j, rfl⟩ := Int.eq_ofNat_of_zero_le hy
          obtain ⟨hj, k', a2, a3, a5, a6, r, hr, a4⟩ : idx[j]? = some nn ∧ ∃ k', 2 ≤ nn ∧ Ks[nn]? = some k' ∧ (∃ r, R[j]? = some r ∧ En (idx.take j) r.l k'.l) ∧ (∃ r, R[j]? = some r ∧ En (idx.take j) r.h k'.h) ∧ ∃ r, R[j]? = some r ∧ r.o = k'.o := by
            rcases HEN.out with h | h | ⟨j', h1, h2⟩
            · omega
            · omega
            · obtain rfl : j = j' := by omega
              have hjl := (List.getElem?_eq_some_iff.1 h2).1
              obtain ⟨r, hr⟩ : ∃ r, R[j]? = some r := ⟨_, List.getElem?_eq_getElem (by rw [HD.out.rk.len]; exact hjl)⟩
              obtain ⟨n', k', b1, b2, b3, b4, b5, b6⟩ := HD.out.rk.kn j r hr
              rw [h2] at b1
              cases b1
              exact ⟨h2, k', b2, b3, ⟨r, hr, b5⟩, ⟨r, hr, b6⟩, r, hr, b4⟩
          obtain ⟨r', hr', a5⟩ := a5
          rw [hr] at hr'
          cases hr'
          obtain ⟨r', hr', a6⟩ := a6
          rw [hr] at hr'
          cases hr'
          have hro : r.o < m := by rw [← HN.out]; exact (Rk.leads HD.out.wf HD.out.rk hr).1
          obtain ⟨c0', c1', c2'⟩ := (HR.out.below HBy.out).hc j r hr
          obtain rfl := HR.out.hA (by have := (List.getElem?_eq_some_iff.1 hr).1; omega)
          obtain ⟨bo, hbo⟩ : ∃ bo, xs[r.o]? = some bo := ⟨_, List.getElem?_eq_getElem (by rw [HX.out]; exact hro)⟩
          obtain rfl := HV.out.hA (by rw [HX.out]; omega)
          have v0 := (HV.out.below HBy.out).hc r.o bo hbo
          have hev := ev_k HD.out.wf a2 a3 (vf xs)
          rw [← a4, vf_at hbo, HEV2.out] at hev
          obtain ⟨wb, hwb⟩ : ∃ wb, wa2.alloc (.cells #[.int .i64 (r.o : Nat), .int .i64 r.l, .int .i64 r.h] 44) = wb := ⟨_, rfl⟩
          have hBb : Below wa2.heap.size wa2 wb := by rw [← hwb]; exact (Below.refl _ wa2).alloc (Nat.le_refl _) _
          have kb' : wb.heap[wa2.heap.size]? = some (.cells #[.int .i64 (r.o : Nat), .int .i64 r.l, .int .i64 r.h] 44 (0, 0)) := by rw [← hwb]; exact allocNew _ _ _ rfl
          have r0 : wb.cell? ⟨wa2.heap.size, 0, none⟩ = some (.int .i64 (r.o : Nat)) := (blk_cell' kb' 0).trans rfl
          have r1 : wb.cell? ⟨wa2.heap.size, 1, none⟩ = some (.int .i64 r.l) := (blk_cell' kb' 1).trans rfl
          have r2 : wb.cell? ⟨wa2.heap.size, 2, none⟩ = some (.int .i64 r.h) := (blk_cell' kb' 2).trans rfl
          have v1 := pw_cell_below hBb v0
          have HBb := Lib.hid (HBy.out.trans (hBb.mono HBy.out.size))
          have htl := (Rk.leads HD.out.wf HD.out.rk hr).2.1
          have hth := (Rk.leads HD.out.wf HD.out.rk hr).2.2
          have hjl : (j : Int) < l := by have := (List.getElem?_eq_some_iff.1 hr).1; rw [HL.out] at this; omega
          have hml : (intOf (Value.int .i64 r.l) + 3).toNat < (intOf (Value.int .i64 (j : Int)) + 3).toNat := by
            simp only [intOf]
            rcases htl with h | h | ⟨j', r', h, h', _⟩ <;> omega
          have hmh : (intOf (Value.int .i64 r.h) + 3).toNat < (intOf (Value.int .i64 (j : Int)) + 3).toNat := by
            simp only [intOf]
            rcases hth with h | h | ⟨j', r', h, h', _⟩ <;> omega
          have enext : ∀ {y : Int} {q : Nat}, En (idx.take j) y q → En idx y q := fun {y q} h => by
            have := h.ext (idx.drop j)
            rwa [List.take_append_drop] at this
          have HE5 := Lib.hid (enext a5)
          have HE6 := Lib.hid (enext a6)
          have HEVN := Lib.hid hev
          have HML := Lib.hid hml
          have HMH := Lib.hid hmh
          have hu44 := Try.underlying44
          clear hr a2 a3 a4 a5 a6 hj enext htl hth hbo hev hBb kb' hml hmh v0
          cases bo
          · go_wp2_with fail
            exact ⟨⟨r.l, k'.l, rfl, HE5, Lib.hid (by have := HEVN.out; simpa using this.symm), HBb⟩, HML.out⟩
          · go_wp2_with fail
            exact ⟨⟨r.h, k'.h, rfl, HE6, Lib.hid (by have := HEVN.out; simpa using this.symm), HBb⟩, HMH.out⟩
        · have hfin : (y == -2) = b := by
            rcases HEN.out with ⟨h1, h2⟩ | ⟨h1, h2⟩ | ⟨j', h1, h2⟩
            · subst h1
              subst h2
              rw [← HEV2.out, ev_0]
              rfl
            · subst h1
              subst h2
              rw [← HEV2.out, ev_1]
              rfl
            · omega
          have HFIN := Lib.hid hfin
          have hd : decide (0 ≤ y) = false := decide_eq_false hy
          clear hfin
          go_wp2_with fail
          go_ret2
          exact ⟨by rw [HFIN.out, ← HEV.out]; rfl, HBy.out⟩
end Go.Proofs.Ytiglkpgoakibaaa
namespace Go.Proofs.Ytiglkpgoakibaaa
open Go.RowKit Go.Maps PTopKnots Go.Proofs.YtiglkpgoakibaaaW.PrintWords
set_option linter.unusedVariables false
set_option linter.unusedSimpArgs false

def tow : ByteArray := ⟨#[116, 111, 119]⟩
def heat : ByteArray := ⟨#[104, 101, 97, 116]⟩
theorem tow_gn : Gn tow := ⟨by decide, by decide, by decide +kernel, by decide +kernel, fun j hj => by
  have : j < 3 := hj
  rcases (show j = 0 ∨ j = 1 ∨ j = 2 by omega) with rfl | rfl | rfl <;> exact .inl (by decide)⟩
theorem heat_gn : Gn heat := ⟨by decide, by decide, by decide +kernel, by decide +kernel, fun j hj => by
  have : j < 4 := hj
  rcases (show j = 0 ∨ j = 1 ∨ j = 2 ∨ j = 3 by omega) with rfl | rfl | rfl | rfl <;> exact .inl (by decide)⟩
theorem eg_rule : Vd 2 [-5, 0, 1] := ⟨⟨⟨⟨trivial, by decide, by decide, by decide⟩, by decide, by decide, by decide⟩, by decide, by decide, by decide⟩, rfl, by decide⟩
theorem eg_form : Vd 2 [-1] := ⟨⟨trivial, by decide, by decide, by decide⟩, rfl, by decide⟩
theorem eg_gm : Gm [tow, heat] [[-5, 0, 1]] := ⟨by decide, by decide, fun a ha => by
  simp only [List.mem_cons, List.not_mem_nil, or_false] at ha
  rcases ha with rfl | rfl
  · exact tow_gn
  · exact heat_gn, fun i j a b hij ha hb => by
  have h1 := (List.getElem?_eq_some_iff.1 ha).1
  have h2 := (List.getElem?_eq_some_iff.1 hb).1
  simp at h1 h2
  obtain rfl : i = 0 := by omega
  obtain rfl : j = 1 := by omega
  cases ha
  cases hb
  decide +kernel, fun f hf => by
  simp only [List.mem_cons, List.not_mem_nil, or_false] at hf
  subst hf
  exact eg_rule⟩
theorem eg_count : (SF 2 [[-5, 0, 1]] [-1]).length = 3 := by decide
set_option maxRecDepth 100000 in
theorem counts_any (w : World) : Calls Try.prog 6 #[] w fun e w' => e = .returned (.bool true) ∧ Below w.heap.size w w' := by
  obtain ⟨w1, hw1⟩ : ∃ w1, w.alloc (.cells #[.string tow, .string heat] 9) = w1 := ⟨_, rfl⟩
  have b1 : Below w.heap.size w w1 := by rw [← hw1]; exact (Below.refl _ w).alloc (Nat.le_refl _) _
  have k1 : w1.heap[w.heap.size]? = some (.cells #[.string tow, .string heat] 9 (0, 0)) := by rw [← hw1]; exact allocNew _ _ _ rfl
  obtain ⟨w2, hw2⟩ : ∃ w2, w1.alloc (.cells #[.int .i64 (-5), .int .i64 0, .int .i64 1] 3) = w2 := ⟨_, rfl⟩
  have b2 : Below w1.heap.size w1 w2 := by rw [← hw2]; exact (Below.refl _ w1).alloc (Nat.le_refl _) _
  have k2 : w2.heap[w1.heap.size]? = some (.cells #[.int .i64 (-5), .int .i64 0, .int .i64 1] 3 (0, 0)) := by rw [← hw2]; exact allocNew _ _ _ rfl
  obtain ⟨w3, hw3⟩ : ∃ w3, w2.alloc (.cells #[.slice (some ⟨w1.heap.size, 0, none⟩) 3 3] 27) = w3 := ⟨_, rfl⟩
  have b3 : Below w2.heap.size w2 w3 := by rw [← hw3]; exact (Below.refl _ w2).alloc (Nat.le_refl _) _
  obtain ⟨w4, hw4⟩ : ∃ w4, w3.alloc (.cells #[.int .i64 (-1)] 3) = w4 := ⟨_, rfl⟩
  have b4 : Below w3.heap.size w3 w4 := by rw [← hw4]; exact (Below.refl _ w3).alloc (Nat.le_refl _) _
  have k4 : w4.heap[w3.heap.size]? = some (.cells #[.int .i64 (-1)] 3 (0, 0)) := by rw [← hw4]; exact allocNew _ _ _ rfl
  have z1 : w.heap.size < w1.heap.size := blk_lt' k1
  have z2 : w1.heap.size < w2.heap.size := blk_lt' k2
  have z3 := b3.size
  have z4 := b4.size
  have r2 : RdF w2 (some ⟨w1.heap.size, 0, none⟩) w1.heap.size 0 [-5, 0, 1] := ⟨fun _ => rfl, fun j x hx => by
    have hj := (List.getElem?_eq_some_iff.1 hx).1
    rw [Nat.zero_add, blk_cell' k2 j]
    rcases (show j = 0 ∨ j = 1 ∨ j = 2 by simp at hj; omega) with rfl | rfl | rfl <;> cases hx <;> rfl⟩
  have r3 := one_F (cap := 3) r2 (fun _ => z2)
  have r3 : RdFs w3 (w2.heap.size + 1) (some ⟨w2.heap.size, 0, none⟩) w2.heap.size 0 [[-5, 0, 1]] := by rw [← hw3]; exact r3
  have z23 : w2.heap.size + 1 ≤ w3.heap.size := by rw [← hw3]; simp
  have hB : Below w.heap.size w w4 := b1.trans ((b2.mono b1.size).trans ((b3.mono (by omega)).trans (b4.mono (by omega))))
  have hM : Mo w4 (w2.heap.size + 1) (some ⟨w.heap.size, 0, none⟩) 2 (some ⟨w2.heap.size, 0, none⟩) w2.heap.size 0 1 [tow, heat] [[-5, 0, 1]] := by
    refine ⟨eg_gm, by decide, by decide, ⟨rfl, by decide, fun _ => ⟨_, rfl, fun j p hp => ⟨[.string p], rfl, rfl, fun i u hu => ?_⟩⟩⟩, by decide, r3.below (b4.mono z23), by omega⟩
    have hi := (List.getElem?_eq_some_iff.1 hu).1
    obtain rfl : i = 0 := by simp at hi; exact hi
    cases hu
    have hj := (List.getElem?_eq_some_iff.1 hp).1
    have k1' := (b2.trans ((b3.mono (by omega)).trans (b4.mono (by omega)))).block _ z1
    rcases (show j = 0 ∨ j = 1 by simp at hj; omega) with rfl | rfl
    · cases hp
      exact (blk_cell' (k1'.trans k1) 0).trans rfl
    · cases hp
      exact (blk_cell' (k1'.trans k1) 1).trans rfl
  have hr : RdF w4 (some ⟨w3.heap.size, 0, none⟩) w3.heap.size 0 [-1] := ⟨fun _ => rfl, fun j x hx => by
    have hj := (List.getElem?_eq_some_iff.1 hx).1
    obtain rfl : j = 0 := by simp at hj; exact hj
    cases hx
    exact (blk_cell' k4 0).trans rfl⟩
  have HJ : Hid (Calls Try.prog 7 #[.agg #[.slice (some ⟨w.heap.size, 0, none⟩) 2 2, .slice (some ⟨w2.heap.size, 0, none⟩) 1 1], .slice (some ⟨w3.heap.size, 0, none⟩) 1 1] w4 fun e w' => e = .returned (.tuple #[.int .i64 3, .int .i64 0]) ∧ Below w4.heap.size w4 w') := by
    have h := cnt_any (cf := 1) hM eg_form hr (blk_lt' k4)
    rw [show ([tow, heat] : List ByteArray).length = 2 from rfl, eg_count] at h
    exact Lib.hid h
  have HB := Lib.hid hB
  have ht : (⟨#[116, 111, 119]⟩ : ByteArray) = tow := rfl
  have hh : (⟨#[104, 101, 97, 116]⟩ : ByteArray) = heat := rfl
  clear hM hr r2 r3 hB k1 k2 k4 b1 b2 b3 b4
  go_enter Try.func6, Try.ntmps6
  go_wp2_with fail
  refine HJ.out.mono ?_
  rintro e w5 ⟨rfl, h5⟩
  have HB5 := Lib.hid (HB.out.trans (h5.mono HB.out.size))
  clear h5
  go_wp2_with fail
  go_ret
  exact ⟨rfl, HB5.out⟩
end Go.Proofs.Ytiglkpgoakibaaa
namespace Go.Proofs.Ytiglkpgoakibaaa
open Go.RowKit Go.Maps PTopKnots Go.Proofs.YtiglkpgoakibaaaW.PrintWords
set_option linter.unusedVariables false
set_option linter.unusedSimpArgs false

/-- The ways, as far as they are counted. -/
structure RW (w : World) (A : Option Addr) (wb : Nat) (W : List Nat) : Prop where
  hA : 0 < W.length → A = some ⟨wb, 0, none⟩
  hc : ∀ i x, W[i]? = some x → w.cell? ⟨wb, i, none⟩ = some (.int .i64 (x : Nat))
/-- What at answers: the option that is asked, the ways from it on. -/
def AtR (N : Nat) (R : List Kr) (W : List Nat) (y : Int) (o x : Nat) : Prop :=
  (y = -1 ∧ o = N ∧ x = 0) ∨ (y = -2 ∧ o = N ∧ x = 1) ∨ ∃ (j : Nat) (r : Kr), y = j ∧ R[j]? = some r ∧ o = r.o ∧ W[j]? = some x
set_option maxRecDepth 100000 in
theorem at_any {w : World} {bl bk bw N kb wb ck cw : Nat} {Ak Aw : Option Addr} {R : List Kr} {W : List Nat} {y : Int} {o x : Nat} (hl : w.cell? ⟨bl, 0, none⟩ = some (.int .i64 (N : Nat))) (hk : w.cell? ⟨bk, 0, none⟩ = some (.slice Ak R.length ck)) (hw : w.cell? ⟨bw, 0, none⟩ = some (.slice Aw W.length cw))
    (hR : RK w Ak kb R) (hW : RW w Aw wb W) (h : AtR N R W y o x) :
    Calls Try.prog 11 #[.int .i64 y, .pointer (some ⟨bl, 0, none⟩), .pointer (some ⟨bk, 0, none⟩), .pointer (some ⟨bw, 0, none⟩)] w fun e w' => e = .returned (.tuple #[.int .i64 (o : Nat), .int .i64 (x : Nat)]) ∧ Below w.heap.size w w' := by
  obtain ⟨rl, hrl⟩ : ∃ rl, R.length = rl := ⟨_, rfl⟩
  obtain ⟨wl, hwl⟩ : ∃ wl, W.length = wl := ⟨_, rfl⟩
  rw [hrl] at hk
  rw [hwl] at hw
  rcases h with ⟨rfl, rfl, rfl⟩ | ⟨rfl, rfl, rfl⟩ | ⟨j, r, rfl, hr, rfl, hx⟩
  · clear hR hW hk hw hrl hwl
    go_enter Try.func11, Try.ntmps11
    go_wp2_with fail
    go_ret2
    exact ⟨rfl, Below.refl _ _⟩
  · clear hR hW hk hw hrl hwl
    go_enter Try.func11, Try.ntmps11
    go_wp2_with fail
    go_ret2
    exact ⟨rfl, Below.refl _ _⟩
  · obtain ⟨c0, c1, c2⟩ := hR.hc j r hr
    have h1 := hW.hc j x hx
    have hjr := (List.getElem?_eq_some_iff.1 hr).1
    have hjw := (List.getElem?_eq_some_iff.1 hx).1
    obtain rfl := hR.hA (by omega)
    obtain rfl := hW.hA (by omega)
    have hj1 : (j : Int) < (rl : Int) := by omega
    have hj2 : (j : Int) < (wl : Int) := by omega
    have hd : decide ((j : Int) < 0) = false := decide_eq_false (by omega)
    clear hR hW hrl hwl hr hx hjr hjw
    go_enter Try.func11, Try.ntmps11
    go_wp2_with fail
    go_quiet (fail)
    go_wp2_with fail
    go_ret2
    exact ⟨rfl, pw_below_drewN (Below.refl _ _) _⟩
end Go.Proofs.Ytiglkpgoakibaaa
