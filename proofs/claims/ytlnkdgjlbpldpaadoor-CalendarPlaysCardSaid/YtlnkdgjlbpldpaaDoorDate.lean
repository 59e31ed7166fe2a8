/- Calendar: a month's length, the date of a day. -/
import Derived.Test.YtlnkdgjlbpldpaaDoorNumD
namespace Go.Proofs.YtlnkdgjlbpldpaaDoor
set_option linter.unusedVariables false
set_option linter.unusedSimpArgs false
namespace Cal
open Go.RowKit Mem Go.Proofs.YtlnkdgjlbpldpaaDoorW.PrintLast

/-! Plain. -/
theorem ahead_lo (m : Int) : 0 ≤ aheadI m := by unfold aheadI; (repeat' split) <;> omega
theorem ahead_hi (m : Int) : aheadI m ≤ 365 := by unfold aheadI; (repeat' split) <;> omega
theorem leapI_cases (y : Int) : leapI y = 0 ∨ leapI y = 1 := by unfold leapI; split <;> simp
/-- The days of a year ahead of a month. -/
def cumI (y m : Int) : Int := aheadI m + (if m > 2 then leapI y else 0)
theorem cum_step (y m : Int) (h1 : 1 ≤ m) (h2 : m ≤ 12) : cumI y m + lengthI y m = cumI y (m + 1) := by
  have hm : m = 1 ∨ m = 2 ∨ m = 3 ∨ m = 4 ∨ m = 5 ∨ m = 6 ∨ m = 7 ∨ m = 8 ∨ m = 9 ∨ m = 10 ∨ m = 11 ∨ m = 12 := by omega
  rcases leapI_cases y with h | h <;> rcases hm with rfl | rfl | rfl | rfl | rfl | rfl | rfl | rfl | rfl | rfl | rfl | rfl <;> simp [cumI, lengthI, aheadI, h]
theorem len_lo (y m : Int) (h1 : 1 ≤ m) (h2 : m ≤ 12) : 28 ≤ lengthI y m := by
  have hm : m = 1 ∨ m = 2 ∨ m = 3 ∨ m = 4 ∨ m = 5 ∨ m = 6 ∨ m = 7 ∨ m = 8 ∨ m = 9 ∨ m = 10 ∨ m = 11 ∨ m = 12 := by omega
  rcases leapI_cases y with h | h <;> rcases hm with rfl | rfl | rfl | rfl | rfl | rfl | rfl | rfl | rfl | rfl | rfl | rfl <;> simp [lengthI, aheadI, h]
theorem len_hi (y m : Int) (h1 : 1 ≤ m) (h2 : m ≤ 12) : lengthI y m ≤ 31 := by
  have hm : m = 1 ∨ m = 2 ∨ m = 3 ∨ m = 4 ∨ m = 5 ∨ m = 6 ∨ m = 7 ∨ m = 8 ∨ m = 9 ∨ m = 10 ∨ m = 11 ∨ m = 12 := by omega
  rcases leapI_cases y with h | h <;> rcases hm with rfl | rfl | rfl | rfl | rfl | rfl | rfl | rfl | rfl | rfl | rfl | rfl <;> simp [lengthI, aheadI, h]
theorem cum1 (y : Int) : cumI y 1 = 0 := by simp [cumI, aheadI]
theorem cum13 (y : Int) : cumI y 13 = 365 + leapI y := by simp [cumI, aheadI]
theorem cum_lo (y m : Int) : 0 ≤ cumI y m := by
  have := ahead_lo m
  unfold cumI
  rcases leapI_cases y with h | h <;> split <;> omega
theorem cum_mono (y m : Int) (h1 : 1 ≤ m) (h2 : m ≤ 13) : cumI y m ≤ 365 + leapI y := by
  rw [← cum13]
  have hm : m = 1 ∨ m = 2 ∨ m = 3 ∨ m = 4 ∨ m = 5 ∨ m = 6 ∨ m = 7 ∨ m = 8 ∨ m = 9 ∨ m = 10 ∨ m = 11 ∨ m = 12 ∨ m = 13 := by omega
  rcases leapI_cases y with h | h <;> rcases hm with rfl | rfl | rfl | rfl | rfl | rfl | rfl | rfl | rfl | rfl | rfl | rfl | rfl <;> simp [cumI, aheadI, h]
theorem num_cum (y m d : Int) : numI y m d = ysI y + cumI y m + d := by unfold numI cumI; omega
/-- A date that is one. -/
structure Right (y m d : Int) : Prop where
  y1 : 1 ≤ y
  y2 : y ≤ 9999
  m1 : 1 ≤ m
  m2 : m ≤ 12
  d1 : 1 ≤ d
  d2 : d ≤ lengthI y m
theorem ys_step (y : Int) (h : 1 ≤ y) : ysI (y + 1) = ysI y + 365 + leapI y := by
  unfold ysI leapI leapB
  by_cases h4 : y % 4 = 0 <;> by_cases h100 : y % 100 = 0 <;> by_cases h400 : y % 400 = 0 <;> simp [h4, h100, h400] <;> omega
theorem ys_step' (y : Int) (h : 1 ≤ y) : ysI y + 365 ≤ ysI (y + 1) := by
  have := ys_step y h
  rcases leapI_cases y with h | h <;> omega
theorem ys_mono {y z : Int} (h1 : 1 ≤ y) (h : y < z) : ysI y + 365 + leapI y ≤ ysI z := by
  have h0 := ys_step y h1
  have : ysI (y + 1) ≤ ysI z := by unfold ysI; omega
  omega
theorem cum_lt {y m k : Int} (h1 : 1 ≤ m) (h2 : m < k) (h3 : k ≤ 13) : cumI y m + lengthI y m ≤ cumI y k := by
  rw [cum_step y m h1 (by omega)]
  have hm : m = 1 ∨ m = 2 ∨ m = 3 ∨ m = 4 ∨ m = 5 ∨ m = 6 ∨ m = 7 ∨ m = 8 ∨ m = 9 ∨ m = 10 ∨ m = 11 ∨ m = 12 := by omega
  have hk : k = 1 ∨ k = 2 ∨ k = 3 ∨ k = 4 ∨ k = 5 ∨ k = 6 ∨ k = 7 ∨ k = 8 ∨ k = 9 ∨ k = 10 ∨ k = 11 ∨ k = 12 ∨ k = 13 := by omega
  rcases leapI_cases y with h | h <;> rcases hm with rfl | rfl | rfl | rfl | rfl | rfl | rfl | rfl | rfl | rfl | rfl | rfl <;> rcases hk with rfl | rfl | rfl | rfl | rfl | rfl | rfl | rfl | rfl | rfl | rfl | rfl | rfl <;> first | omega | simp [cumI, aheadI, h]
theorem Right.num {y m d : Int} (h : Right y m d) : ysI y < numI y m d ∧ numI y m d ≤ ysI y + 365 + leapI y := by
  have h1 := cum_lo y m
  have h2 := cum_step y m h.m1 h.m2
  have h3 := cum_mono y (m + 1) (by have := h.m1; omega) (by have := h.m2; omega)
  have h4 := h.d1
  have h5 := h.d2
  rw [num_cum]
  omega
/-- Dates that are right rise with their numbers. -/
theorem Right.lt {y m d y' m' d' : Int} (h : Right y m d) (h' : Right y' m' d') (hl : y < y' ∨ y = y' ∧ (m < m' ∨ m = m' ∧ d < d')) : numI y m d < numI y' m' d' := by
  rcases hl with hl | ⟨rfl, hl | ⟨rfl, hl⟩⟩
  · have := h.num
    have := h'.num
    have := ys_mono h.y1 hl
    omega
  · rw [num_cum, num_cum]
    have := cum_lt (y := y) h.m1 hl (by have := h'.m2; omega)
    have := h.d2
    have := h'.d1
    omega
  · rw [num_cum, num_cum]; omega
theorem Right.inj {y m d y' m' d' : Int} (h : Right y m d) (h' : Right y' m' d') (he : numI y m d = numI y' m' d') : y = y' ∧ m = m' ∧ d = d' := by
  have key : ∀ {y m d y' m' d' : Int}, Right y m d → Right y' m' d' → numI y m d = numI y' m' d' → ¬ (y < y' ∨ y = y' ∧ (m < m' ∨ m = m' ∧ d < d')) := fun h h' e hl => by
    have := h.lt h' hl
    omega
  have k1 := key h h' he
  have k2 := key h' h he.symm
  omega
theorem Right.last {y m d : Int} (h : Right y m d) : 1 ≤ numI y m d ∧ numI y m d ≤ 3652059 := by
  have h1 := h.num
  have h2 := ysI_lo y h.y1
  have h3 : ysI y + 365 + leapI y ≤ 3652059 := by
    rw [← ys_step y h.y1]
    exact ysI_hi _ (by have := h.y2; omega)
  omega

set_option maxHeartbeats 1000000 in
set_option maxRecDepth 100000 in
theorem length_any (y m : Int) (w : World) (hy1 : 1 ≤ y) (hy2 : y ≤ 9999) (h1 : 1 ≤ m) (h2 : m ≤ 12) :
    Calls Tryd.prog 31 #[.int .i64 y, .int .i64 m] w fun e w' => e = .returned (.int .i64 (lengthI y m)) ∧ Below w.heap.size w w' := by
  have ha0 := ahead_lo m
  have ha1 := ahead_hi m
  have hb0 := ahead_lo (m + 1)
  have hb1 := ahead_hi (m + 1)
  have Hl : Held (lengthI y m = aheadI (m + 1) - aheadI m + (if m = 2 then leapI y else 0)) := ⟨rfl⟩
  have HI : Held (leapI y = if leapB y then 1 else 0) := ⟨rfl⟩
  go_enter Tryd.func31, Tryd.ntmps31
  go_wp2_with fail
  refine (ahead_any (m + 1) w (by omega) (by omega)).mono ?_
  rintro e w1 ⟨rfl, hb⟩
  have HB1 := Held.mk hb
  clear hb
  go_wp2_with fail
  refine (ahead_any m w1 (by omega) (by omega)).mono ?_
  rintro e w2 ⟨rfl, hb⟩
  have HB2 : Held (Below w.heap.size w w2) := ⟨HB1.out.trans (hb.mono HB1.out.size)⟩
  clear hb HB1
  generalize aheadI (m + 1) = b at *
  generalize aheadI m = a at *
  by_cases hm : m = 2
  · have hb : (m == 2) = true := by simp [hm]
    have Hm := Held.mk hm
    clear hm
    go_wp2_with fail
    refine (leap_any y w2 hy1 (by omega)).mono ?_
    rintro e w3 ⟨rfl, rfl⟩
    have HL : Held (leapB y = true ∨ leapB y = false) := ⟨by cases leapB y <;> simp⟩
    rcases HL.out with hl | hl
    · have hlen : lengthI y m = b - a + 1 := by rw [Hl.out, if_pos Hm.out, HI.out, hl]; rfl
      have Hlen := Held.mk hlen
      rw [hl]
      clear HL HI Hl hl hlen
      go_wp2
      go_ret
      exact ⟨by rw [Hlen.out]; rfl, HB2.out⟩
    · have hlen : lengthI y m = b - a := by rw [Hl.out, if_pos Hm.out, HI.out, hl]; simp
      have Hlen := Held.mk hlen
      rw [hl]
      clear HL HI Hl hl hlen
      go_wp2
      go_ret
      exact ⟨by rw [Hlen.out]; rfl, HB2.out⟩
  · have hb : (m == 2) = false := beq_eq_false_iff_ne.2 hm
    have hlen : lengthI y m = b - a := by rw [Hl.out, if_neg hm]; omega
    have Hlen := Held.mk hlen
    clear Hl HI hm hlen
    go_wp2
    go_ret
    exact ⟨by rw [Hlen.out]; rfl, HB2.out⟩

set_option maxHeartbeats 2000000 in
theorem not100 (a b : Int) (h1 : 0 < b) (h2 : b < 100) : ¬ (100 * a + b) % 100 = 0 := by omega
theorem leap_a (q c f : Int) (h0 : 0 ≤ f) (h1 : f < 24) : leapI (400 * q + 1 + (100 * c + 4 * f + 3)) = 1 := by
  have e1 : (400 * q + 1 + (100 * c + 4 * f + 3)) % 4 = 0 := by
    rw [show 400 * q + 1 + (100 * c + 4 * f + 3) = 4 * (100 * q + 25 * c + f + 1) by omega]
    exact Int.mul_emod_right _ _
  have e2 : ¬ (400 * q + 1 + (100 * c + 4 * f + 3)) % 100 = 0 := by
    rw [show 400 * q + 1 + (100 * c + 4 * f + 3) = 100 * (4 * q + c) + (4 * f + 4) by omega]
    exact not100 _ _ (by omega) (by omega)
  unfold leapI leapB
  simp [e1, e2]
theorem leap_b (q : Int) : leapI (400 * q + 1 + (100 * 3 + 4 * 24 + 3)) = 1 := by
  have e1 : (400 * q + 1 + (100 * 3 + 4 * 24 + 3)) % 4 = 0 := by
    rw [show 400 * q + 1 + (100 * 3 + 4 * 24 + 3) = 4 * (100 * q + 100) by omega]
    exact Int.mul_emod_right _ _
  have e2 : (400 * q + 1 + (100 * 3 + 4 * 24 + 3)) % 400 = 0 := by
    rw [show 400 * q + 1 + (100 * 3 + 4 * 24 + 3) = 400 * (q + 1) by omega]
    exact Int.mul_emod_right _ _
  unfold leapI leapB
  rw [e1, e2]
  simp
theorem ys_of (q c f o : Int) (hc0 : 0 ≤ c) (hc3 : c ≤ 3) (hf0 : 0 ≤ f) (hf1 : f ≤ 24) (ho0 : 0 ≤ o) (ho3 : o ≤ 3) :
    ysI (400 * q + 1 + (100 * c + 4 * f + o)) = 146097 * q + 36524 * c + 1461 * f + 365 * o := by
  unfold ysI
  have e0 : 400 * q + 1 + (100 * c + 4 * f + o) - 1 = 400 * q + (100 * c + 4 * f + o) := by omega
  rw [e0]
  have e4 : (400 * q + (100 * c + 4 * f + o)) / 4 = 100 * q + 25 * c + f := by omega
  have e100 : (400 * q + (100 * c + 4 * f + o)) / 100 = 4 * q + c := by omega
  have e400 : (400 * q + (100 * c + 4 * f + o)) / 400 = q := by omega
  rw [e4, e100, e400]
  clear e0 e4 e100 e400
  omega
theorem year_of (n q r c r1 f r2 o r3 Y : Int) (h1 : 1 ≤ n) (h2 : n ≤ 3652059) (hq : n - 1 = 146097 * q + r) (hr0 : 0 ≤ r) (hr : r < 146097) (hc0 : 0 ≤ c) (hc3 : c ≤ 3) (hcr : 36524 * c ≤ r) (hcr' : c < 3 → r < 36524 * (c + 1))
    (hr1 : r1 = r - 36524 * c) (hf : 1461 * f ≤ r1) (hf' : r1 < 1461 * (f + 1)) (hr2 : r2 = r1 - 1461 * f) (ho0 : 0 ≤ o) (ho3 : o ≤ 3) (hor : 365 * o ≤ r2) (hor' : o < 3 → r2 < 365 * (o + 1)) (hr3 : r3 = r2 - 365 * o)
    (hY : Y = 400 * q + 1 + (100 * c + 4 * f + o)) :
    1 ≤ Y ∧ Y ≤ 9999 ∧ n = ysI Y + r3 + 1 ∧ 0 ≤ r3 ∧ r3 < 365 + leapI Y := by
  have hq0 : 0 ≤ q := by omega
  have hr1b : r1 ≤ 36524 := by
    by_cases hc : c < 3
    · have := hcr' hc; omega
    · omega
  have hr10 : 0 ≤ r1 := by omega
  have hf0 : 0 ≤ f := by omega
  have hf24 : f ≤ 24 := by omega
  have hys := ys_of q c f o hc0 hc3 hf0 hf24 ho0 ho3
  have hL : 0 ≤ leapI Y := by rcases leapI_cases Y with h | h <;> omega
  refine ⟨by omega, ?_, by rw [hY, hys]; omega, by omega, ?_⟩
  · have hq24 : q ≤ 24 := by omega
    by_cases hqq : q = 24
    · subst hqq
      omega
    · omega
  · by_cases ho : o < 3
    · have := hor' ho; omega
    · have ho' : o = 3 := by omega
      subst ho'
      by_cases h24 : f = 24
      · subst h24
        by_cases hc : c < 3
        · have h5 := hcr' hc
          omega
        · have hc' : c = 3 := by omega
          subst hc'
          have hl := leap_b q
          rw [← hY] at hl
          omega
      · have hl := leap_a q c f hf0 (by omega)
        rw [← hY] at hl
        omega

theorem year_d (n q r : Int) (h1 : 1 ≤ n) (h2 : n ≤ 3652059) (hq : n - 1 = 146097 * q + r) (hr0 : 0 ≤ r) (hr : r < 146097) (C : Int) (hC : C = 3 ∧ 3 ≤ r / 36524 ∨ C = r / 36524 ∧ r / 36524 ≤ 3)
    (R1 : Int) (hR1 : R1 = r - 36524 * C) (O : Int) (hO : O = 3 ∧ 3 ≤ (R1 - R1 / 1461 * 1461) / 365 ∨ O = (R1 - R1 / 1461 * 1461) / 365 ∧ (R1 - R1 / 1461 * 1461) / 365 ≤ 3)
    (R Y : Int) (hR : R = R1 - R1 / 1461 * 1461 - 365 * O) (hY : Y = 400 * q + 1 + (100 * C + 4 * (R1 / 1461) + O)) :
    1 ≤ Y ∧ Y ≤ 9999 ∧ n = ysI Y + R + 1 ∧ 0 ≤ R ∧ R < 365 + leapI Y := by
  have hc : 0 ≤ C ∧ C ≤ 3 ∧ 36524 * C ≤ r ∧ (C < 3 → r < 36524 * (C + 1)) := by
    clear hO hR hY hR1
    rcases hC with ⟨rfl, h⟩ | ⟨rfl, h⟩ <;> refine ⟨?_, ?_, ?_, ?_⟩ <;> omega
  obtain ⟨hc0, hc3, hc4, hc5⟩ := hc
  clear hC
  have hf : 1461 * (R1 / 1461) ≤ R1 ∧ R1 < 1461 * (R1 / 1461 + 1) := by clear hO hR hY; constructor <;> omega
  obtain ⟨hf1, hf2⟩ := hf
  generalize R1 / 1461 = f at *
  generalize hr2 : R1 - f * 1461 = r2 at *
  have ho : 0 ≤ O ∧ O ≤ 3 ∧ 365 * O ≤ r2 ∧ (O < 3 → r2 < 365 * (O + 1)) := by
    have h0 : 0 ≤ r2 := by omega
    clear hY hR hR1 hq hf1 hf2 hc0 hc3 hc4 hc5 hr2
    rcases hO with ⟨rfl, h⟩ | ⟨rfl, h⟩ <;> refine ⟨?_, ?_, ?_, ?_⟩ <;> omega
  obtain ⟨ho0, ho3, ho4, ho5⟩ := ho
  exact year_of n q r C R1 f r2 O R Y h1 h2 hq hr0 hr hc0 hc3 hc4 hc5 hR1 hf1 hf2 (by omega) ho0 ho3 ho4 ho5 hR hY

def loopsOf : Code → List Code
  | .loop c => [c]
  | .seq a b => loopsOf a ++ loopsOf b
  | .block _ c => loopsOf c
  | .scope c => loopsOf c
  | .cond _ a b => loopsOf a ++ loopsOf b
  | _ => []
noncomputable def dateBody : Code := (((Tryd.f40.body.map loopsOf).getD [])[0]?).getD .skip
set_option maxHeartbeats 4000000 in
set_option maxRecDepth 100000 in
theorem date_loop (n R Y : Int) (W0 g : Nat) (w w1 : World) (hY : 1 ≤ Y ∧ Y ≤ 9999 ∧ n = ysI Y + R + 1 ∧ 0 ≤ R ∧ R < 365 + leapI Y) (hg : Held (Blk w1 g 23 #[.int .i64 0, .int .i64 0, .int .i64 0])) (hgs : W0 ≤ g) (hB : Held (Below W0 w w1))
    (c1 c4 c5 c6 c8 c9 c10 c11 c12 c13 c14 c15 c16 c17 c18 c19 c20 c21 c22 c23 c24 c25 c26 c27 c28 c29 c30 c31 c32 c33 c34 c35 c36 c37 c38 c39 c40 c41 c42 c43 c44 c45 c46 c47 c48 c49 c50 c51 c52 c53 c54 c55 c56 c57 c58 c59 c60 c61 : Value) (K : Act → World → Prop) (post : Ending → World → Prop)
    (HK : Held (∀ (m d : Int) (w' : World) (v45 v46 v47 v48 v49 v50 v51 v52 v53 v54 v55 v56 : Value), Right Y m (d + 1) → numI Y m (d + 1) = n → Held (Blk w' g 23 #[.int .i64 0, .int .i64 0, .int .i64 0]) → Held (Below W0 w w') → K ⟨#[.int .i64 d, c1, .pointer (some ⟨g, 0, none⟩), .int .i64 Y, c4, c5, c6, .int .i64 m, c8, c9, c10, c11, c12, c13, c14, c15, c16, c17, c18, c19, c20, c21, c22, c23, c24, c25, c26, c27, c28, c29, c30, c31, c32, c33, c34, c35, c36, c37, c38, c39, c40, c41, c42, c43, c44, v45, v46, v47, v48, v49, v50, v51, v52, v53, v54, v55, v56, c57, c58, c59, c60, c61], []⟩ w')) :
    Code.wp Tryd.prog (.loop dateBody) (Exit.inBlock 0 (Exit.then K (bodyPost Tryd.prog Tryd.f40 post))) ⟨#[.int .i64 R, c1, .pointer (some ⟨g, 0, none⟩), .int .i64 Y, c4, c5, c6, .int .i64 1, c8, c9, c10, c11, c12, c13, c14, c15, c16, c17, c18, c19, c20, c21, c22, c23, c24, c25, c26, c27, c28, c29, c30, c31, c32, c33, c34, c35, c36, c37, c38, c39, c40, c41, c42, c43, c44, c45, c46, c47, c48, c49, c50, c51, c52, c53, c54, c55, c56, c57, c58, c59, c60, c61], []⟩ w1 := by
  obtain ⟨hY1, hY2, hn, hR0, hR1⟩ := hY
  conv => arg 2; arg 1; whnf
  have Hn := Held.mk hn
  have HR := Held.mk hR1
  have hR2 : R ≤ 365 := by rcases leapI_cases Y with h | h <;> omega
  clear hn hR1
  dsimp only
  go_loopw [0, 7] (fun r mv wr => ∃ (m r0 : Int), r = .int .i64 r0 ∧ mv = .int .i64 m ∧ 1 ≤ m ∧ m ≤ 12 ∧ 0 ≤ r0 ∧ r0 ≤ 365 ∧ Held (r0 + cumI Y m = R) ∧ Held (Blk wr g 23 #[.int .i64 0, .int .i64 0, .int .i64 0]) ∧ Held (Below W0 w wr)) (fun _ mv _ => 13 - (intOf mv).toNat)
  case atStart => exact ⟨1, R, rfl, rfl, by omega, by omega, hR0, hR2, ⟨by rw [cum1]; omega⟩, hg, hB⟩
  case round =>
    obtain ⟨m, r0, rfl, rfl, hm1, hm2, hr0, hr1, HC, HG, HB⟩ := hrel
    clear hg hB
    have hl1 := len_lo Y m hm1 hm2
    have hl2 := len_hi Y m hm1 hm2
    have HS := Held.mk (cum_step Y m hm1 hm2)
    have HM : Held (cumI Y 13 = 365 + leapI Y) := ⟨cum13 Y⟩
    have HD : Held (numI Y m (r0 + 1) = ysI Y + cumI Y m + (r0 + 1)) := ⟨num_cum Y m (r0 + 1)⟩
    have HRt : Held (r0 < lengthI Y m → Right Y m (r0 + 1)) := ⟨fun h => ⟨hY1, hY2, hm1, hm2, by omega, by omega⟩⟩
    go_wp2_with fail
    refine (length_any Y m wr hY1 hY2 hm1 hm2).mono ?_
    rintro e w2 ⟨rfl, hb⟩
    have HB2 : Held (Below W0 w w2) := ⟨HB.out.trans (hb.mono (by have := HG.out.lt; omega))⟩
    have HG2 := Held.mk (HG.out.keep (Keep.of_below hb (fun _ => False)) (fun h => h))
    clear hb HB HG
    generalize hlen : lengthI Y m = ln at *
    have Hlen := Held.mk hlen
    clear hlen
    by_cases hlt : r0 < ln
    · have HRr := Held.mk (HRt.out hlt)
      have HN : Held (numI Y m (r0 + 1) = n) := ⟨by rw [HD.out, Hn.out]; have := HC.out; omega⟩
      go_wp2
      exact HK.out m r0 w2 _ _ _ _ _ _ _ _ _ _ _ _ HRr.out HN.out HG2 HB2
    · have hge : ln ≤ r0 := by omega
      clear hlt
      have hm12 : m ≤ 11 := by
        have h1 := HS.out
        have h2 := HC.out
        have h3 := HR.out
        by_cases h : m = 12
        · subst h
          have h4 := HM.out
          rw [show (12 : Int) + 1 = 13 from rfl] at h1
          omega
        · omega
      go_wp2_with fail
      refine (length_any Y m w2 hY1 hY2 hm1 hm2).mono ?_
      rintro e w3 ⟨rfl, hb⟩
      have HB3 : Held (Below W0 w w3) := ⟨HB2.out.trans (hb.mono (by have := HG2.out.lt; omega))⟩
      have HG3 := Held.mk (HG2.out.keep (Keep.of_below hb (fun _ => False)) (fun h => h))
      clear hb HB2 HG2
      rw [Hlen.out]
      go_wp2
      go_roundw
      case rel => exact ⟨m + 1, r0 - ln, rfl, rfl, by omega, by omega, by omega, by omega, ⟨by have := HS.out; have := HC.out; omega⟩, HG3, HB3⟩
      case measure => simp [intOf]; omega

def dateRes (n : Int) (w : World) (e : Ending) (w' : World) : Prop := ∃ y m d, e = .returned (Dt y m d) ∧ Right y m d ∧ numI y m d = n ∧ Below w.heap.size w w'

set_option maxHeartbeats 4000000 in
set_option maxRecDepth 100000 in
theorem date_any (n : Int) (w : World) (h1 : 1 ≤ n) (h2 : n ≤ 3652059) :
    Calls Tryd.prog 40 #[.int .i64 n] w (dateRes n w) := by
  have hN := Held.mk (Blk.new w 23 #[.int .i64 0, .int .i64 0, .int .i64 0])
  have hB := Held.mk ((Below.refl w.heap.size w).alloc (Nat.le_refl _) (.cells #[.int .i64 0, .int .i64 0, .int .i64 0] 23))
  go_enter Tryd.func40, Tryd.ntmps40
  go_wp2
  all_goals
    have hr0 : 0 ≤ (n - 1) % 146097 := by omega
    have hr1 : (n - 1) % 146097 < 146097 := by omega
    have hq : n - 1 = 146097 * ((n - 1) / 146097) + (n - 1) % 146097 := by omega
    generalize (n - 1) / 146097 = q at *
    generalize (n - 1) % 146097 = r at *
  all_goals
    first
      | (refine date_loop n _ _ w.heap.size w.heap.size w _ (year_d n q r h1 h2 hq hr0 hr1 3 (.inl ⟨rfl, by omega⟩) (r - 109572) (by omega) 3 (.inl ⟨rfl, by omega⟩) _ _ (by omega) (by omega)) hN (Nat.le_refl _) hB _ _ _ _ _ _ _ _ _ _ _ _ _ _ _ _ _ _ _ _ _ _ _ _ _ _ _ _ _ _ _ _ _ _ _ _ _ _ _ _ _ _ _ _ _ _ _ _ _ _ _ _ _ _ _ _ _ _ _ _ ⟨?_⟩)
      | (refine date_loop n _ _ w.heap.size w.heap.size w _ (year_d n q r h1 h2 hq hr0 hr1 3 (.inl ⟨rfl, by omega⟩) (r - 109572) (by omega) (((r - 109572) - (r - 109572) / 1461 * 1461) / 365) (.inr ⟨rfl, by omega⟩) _ _ (by omega) (by omega)) hN (Nat.le_refl _) hB _ _ _ _ _ _ _ _ _ _ _ _ _ _ _ _ _ _ _ _ _ _ _ _ _ _ _ _ _ _ _ _ _ _ _ _ _ _ _ _ _ _ _ _ _ _ _ _ _ _ _ _ _ _ _ _ _ _ _ _ ⟨?_⟩)
      | (refine date_loop n _ _ w.heap.size w.heap.size w _ (year_d n q r h1 h2 hq hr0 hr1 (r / 36524) (.inr ⟨rfl, by omega⟩) (r - r / 36524 * 36524) (by omega) 3 (.inl ⟨rfl, by omega⟩) _ _ (by omega) (by omega)) hN (Nat.le_refl _) hB _ _ _ _ _ _ _ _ _ _ _ _ _ _ _ _ _ _ _ _ _ _ _ _ _ _ _ _ _ _ _ _ _ _ _ _ _ _ _ _ _ _ _ _ _ _ _ _ _ _ _ _ _ _ _ _ _ _ _ _ ⟨?_⟩)
      | (refine date_loop n _ _ w.heap.size w.heap.size w _ (year_d n q r h1 h2 hq hr0 hr1 (r / 36524) (.inr ⟨rfl, by omega⟩) (r - r / 36524 * 36524) (by omega) (((r - r / 36524 * 36524) - (r - r / 36524 * 36524) / 1461 * 1461) / 365) (.inr ⟨rfl, by omega⟩) _ _ (by omega) (by omega)) hN (Nat.le_refl _) hB _ _ _ _ _ _ _ _ _ _ _ _ _ _ _ _ _ _ _ _ _ _ _ _ _ _ _ _ _ _ _ _ _ _ _ _ _ _ _ _ _ _ _ _ _ _ _ _ _ _ _ _ _ _ _ _ _ _ _ _ ⟨?_⟩)
  all_goals
    intro m d w2 _ _ _ _ _ _ _ _ _ _ _ _ hR hn HG HB
    have hd1 : 0 ≤ d := by have := hR.d1; omega
    have hd2 : d ≤ 30 := by have h5 := hR.d2; have h6 := Int.le_trans h5 (len_hi _ _ hR.m1 hR.m2); omega
    have k0 := HG.out.cell 0
    have k1 := HG.out.cell 1
    have k2 := HG.out.cell 2
    simp at k0 k1 k2
    have f0 := HG.out.frozen 0
    have f1 := HG.out.frozen 1
    have f2 := HG.out.frozen 2
    have HR := Held.mk hR
    have HN := Held.mk hn
    clear hR hn
    dsimp only
    go_wp2
    refine bodyPost_ret (results_cell_row rfl _ _ w.heap.size 23 #[.int .i64 _, .int .i64 m, .int .i64 (d + 1)] (0, 0) _ rfl (((HG.out.set_ 0 (.int .i64 _)).set_ 1 (.int .i64 m)).set_ 2 (.int .i64 (d + 1))) Tryd.underlying23 rfl (by kernel_rfl)) rfl ⟨_, m, d + 1, rfl, HR.out, HN.out, ((HB.out.setCell (Nat.le_refl _) _).setCell (Nat.le_refl _) _).setCell (Nat.le_refl _) _⟩
end Cal
end Go.Proofs.YtlnkdgjlbpldpaaDoor
