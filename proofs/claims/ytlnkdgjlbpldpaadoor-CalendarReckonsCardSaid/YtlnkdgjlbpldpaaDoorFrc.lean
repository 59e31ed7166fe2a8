/- Fraction: the program's and the document's. -/
import Derived.Test.YtlnkdgjlbpldpaaDoorRfr
namespace Go.Proofs.YtlnkdgjlbpldpaaDoor
set_option linter.unusedVariables false
set_option linter.unusedSimpArgs false
namespace Cal
open Go.RowKit Mem Go.Proofs.YtlnkdgjlbpldpaaDoorW.PrintLast

def fracArgV : Value := .iface 77 (.agg #[.string ⟨#[102, 114, 97, 99, 116, 105, 111, 110]⟩, .int .i64 1])
def frI (c y1 m1 d1 y2 m2 d2 : Int) : Int := 360 * (y2 - y1) + 30 * (m2 - m1) + (if c = 3 ∨ 30 ≤ d1 then (if 31 ≤ d2 then 30 else d2) else d2) - (if 31 ≤ d1 then 30 else d1)
theorem fr_cases {c d1 d2 : Int} (hc : c = 2 ∨ c = 3) (h1 : d1 ≤ 31) (h2 : d2 ≤ 31) : (c = 2 ∨ c = 3) ∧ (d1 ≤ 29 ∨ d1 = 30 ∨ d1 = 31) ∧ (d2 ≤ 30 ∨ d2 = 31) := by omega
set_option maxHeartbeats 8000000 in
set_option maxRecDepth 100000 in
theorem frac_out (a b c : Int) (w : World) (h : ¬ (isD a ∧ isD b)) : Calls Tryd.prog 20 #[.int .i64 a, .int .i64 b, .int .i64 c] w fun e w' => e = .returned (.tuple #[.int .i64 0, .int .i64 0, noDayV]) ∧ Below w.heap.size w w' := by
  by_cases ha : 1 ≤ a ∧ a ≤ 3652059
  · have hb : ¬ (1 ≤ b ∧ b ≤ 3652059) := fun hb => h ⟨ha, hb⟩
    have Hb := Held.mk hb
    have Ha := Held.mk ha
    clear h ha hb
    go_enter Tryd.func20, Tryd.ntmps20
    go_wp2_with fail
    refine (isDay_any a w).mono ?_
    rintro e w1 ⟨rfl, rfl⟩
    rw [decide_eq_true Ha.out]
    go_wp2_with fail
    refine (isDay_any b w).mono ?_
    rintro e w1 ⟨rfl, rfl⟩
    rw [decide_eq_false Hb.out]
    go_wp2_with fail
    refine (noDay_any w).mono ?_
    rintro e w1 ⟨rfl, rfl⟩
    go_wp2
    go_ret3
    exact ⟨rfl, Below.refl _ _⟩
  · have Ha := Held.mk ha
    clear h ha
    go_enter Tryd.func20, Tryd.ntmps20
    go_wp2_with fail
    refine (isDay_any a w).mono ?_
    rintro e w1 ⟨rfl, rfl⟩
    rw [decide_eq_false Ha.out]
    go_wp2_with fail
    refine (noDay_any w).mono ?_
    rintro e w1 ⟨rfl, rfl⟩
    go_wp2
    go_ret3
    exact ⟨rfl, Below.refl _ _⟩
set_option maxHeartbeats 8000000 in
set_option maxRecDepth 100000 in
theorem frac_arg (a b c : Int) (w : World) (ha : isD a) (hb : isD b) (h : c < 0 ∨ 3 < c ∨ b < a) : Calls Tryd.prog 20 #[.int .i64 a, .int .i64 b, .int .i64 c] w fun e w' => e = .returned (.tuple #[.int .i64 0, .int .i64 0, fracArgV]) ∧ Below w.heap.size w w' := by
  obtain ⟨ha1, ha2⟩ := ha
  obtain ⟨hb1, hb2⟩ := hb
  have hc : decide (c < 0) = true ∨ decide (c < 0) = false ∧ decide (3 < c) = true ∨ decide (c < 0) = false ∧ decide (3 < c) = false ∧ decide (b < a) = true := by simp only [decide_eq_true_eq, decide_eq_false_iff_not]; omega
  clear h
  rcases hc with c1 | ⟨c1, c2⟩ | ⟨c1, c2, c3⟩ <;>
  · go_enter Tryd.func20, Tryd.ntmps20
    go_wp2_with fail
    refine (isDay_any a w).mono ?_
    rintro e w1 ⟨rfl, rfl⟩
    rw [decide_eq_true (And.intro ha1 ha2)]
    go_wp2_with fail
    refine (isDay_any b w).mono ?_
    rintro e w1 ⟨rfl, rfl⟩
    rw [decide_eq_true (And.intro hb1 hb2)]
    go_wp2
    go_ret3
    exact ⟨rfl, Below.refl _ _⟩
set_option maxHeartbeats 8000000 in
set_option maxRecDepth 100000 in
theorem frac_days (a b c : Int) (w : World) (ha : isD a) (hb : isD b) (hab : a ≤ b) (hc : c = 0 ∨ c = 1) : Calls Tryd.prog 20 #[.int .i64 a, .int .i64 b, .int .i64 c] w fun e w' => e = .returned (.tuple #[.int .i64 (b - a), .int .i64 (if c = 0 then 360 else 365), .nilIface]) ∧ Below w.heap.size w w' := by
  obtain ⟨ha1, ha2⟩ := ha
  obtain ⟨hb1, hb2⟩ := hb
  have c3 : decide (b < a) = false := decide_eq_false (by omega)
  rcases hc with rfl | rfl <;>
  · go_enter Tryd.func20, Tryd.ntmps20
    go_wp2_with fail
    refine (isDay_any a w).mono ?_
    rintro e w1 ⟨rfl, rfl⟩
    rw [decide_eq_true (And.intro ha1 ha2)]
    go_wp2_with fail
    refine (isDay_any b w).mono ?_
    rintro e w1 ⟨rfl, rfl⟩
    rw [decide_eq_true (And.intro hb1 hb2)]
    go_wp2_with fail
    refine (date_any a w ha1 ha2).mono ?_
    rintro e w2 ⟨y1, m1, d1, rfl, hR1q, hN1q, hb⟩
    have HB2 := Held.mk hb
    have hs2 := hb.size
    clear hb
    go_wp2_with fail
    refine (date_any b w2 hb1 hb2).mono ?_
    rintro e w3 ⟨y2, m2, d2, rfl, hR2q, hN2q, hb⟩
    have HB3 : Held (Below w.heap.size w w3) := ⟨HB2.out.trans (hb.mono HB2.out.size)⟩
    have hs3 := HB3.out.size
    clear hb HB2 hs2
    unfold Dt
    go_wp2
    go_ret3
    exact ⟨rfl, (HB3.out.alloc hs3 _).alloc (by simp; omega) _⟩
set_option maxHeartbeats 8000000 in
set_option maxRecDepth 100000 in
theorem frac_thirty (a b c y1 m1 d1 y2 m2 d2 : Int) (w : World) (hab : a ≤ b) (hc : c = 2 ∨ c = 3) (hR1 : Right y1 m1 d1) (hE1 : numI y1 m1 d1 = a) (hR2 : Right y2 m2 d2) (hE2 : numI y2 m2 d2 = b) : Calls Tryd.prog 20 #[.int .i64 a, .int .i64 b, .int .i64 c] w fun e w' => e = .returned (.tuple #[.int .i64 (frI c y1 m1 d1 y2 m2 d2), .int .i64 360, .nilIface]) ∧ Below w.heap.size w w' := by
  obtain ⟨ha1, ha2⟩ := hR1.last
  obtain ⟨hb1, hb2⟩ := hR2.last
  rw [hE1] at ha1 ha2
  rw [hE2] at hb1 hb2
  have c3 : decide (b < a) = false := decide_eq_false (by omega)
  have HR1 := Held.mk hR1
  have HR2 := Held.mk hR2
  have HE1 := Held.mk hE1
  have HE2 := Held.mk hE2
  have y1a := hR1.y1
  have y1b := hR1.y2
  have y2a := hR2.y1
  have y2b := hR2.y2
  have m1a := hR1.m1
  have m1b := hR1.m2
  have m2a := hR2.m1
  have m2b := hR2.m2
  have d1a := hR1.d1
  have d2a := hR2.d1
  have d1b : d1 ≤ 31 := Int.le_trans hR1.d2 (len_hi y1 m1 m1a m1b)
  have d2b : d2 ≤ 31 := Int.le_trans hR2.d2 (len_hi y2 m2 m2a m2b)
  obtain ⟨hc, h1, h2⟩ := fr_cases hc d1b d2b
  have Hf : Held (frI c y1 m1 d1 y2 m2 d2 = 360 * (y2 - y1) + 30 * (m2 - m1) + (if c = 3 ∨ 30 ≤ d1 then (if 31 ≤ d2 then 30 else d2) else d2) - (if 31 ≤ d1 then 30 else d1)) := ⟨rfl⟩
  clear hR1 hR2 hE1 hE2
  have hq1 : (d1 ≤ 29 ∧ decide (30 < d1) = false ∧ decide (30 ≤ d1) = false ∧ (d1 == 31) = false ∧ (d1 == 30) = false ∧ (if 30 < d1 then (30 : Int) else d1) = d1) ∨ d1 = 30 ∨ d1 = 31 := by
    rcases h1 with h | h | h
    · exact .inl ⟨h, decide_eq_false (by omega), decide_eq_false (by omega), beq_eq_false_iff_ne.2 (by omega), beq_eq_false_iff_ne.2 (by omega), if_neg (by omega)⟩
    · exact .inr (.inl h)
    · exact .inr (.inr h)
  have hq2 : (d2 ≤ 30 ∧ decide (30 < d2) = false ∧ (d2 == 31) = false ∧ (if 30 < d2 then (30 : Int) else d2) = d2) ∨ d2 = 31 := by
    rcases h2 with h | h
    · exact .inl ⟨h, decide_eq_false (by omega), beq_eq_false_iff_ne.2 (by omega), if_neg (by omega)⟩
    · exact .inr h
  clear h1 h2
  rcases hc with rfl | rfl <;> rcases hq1 with ⟨p1, p2, p3, p4, p5, p6⟩ | rfl | rfl <;> rcases hq2 with ⟨q1, q2, q3, q4⟩ | rfl <;>
  · go_enter Tryd.func20, Tryd.ntmps20
    go_wp2_with fail
    refine (isDay_any a w).mono ?_
    rintro e w1 ⟨rfl, rfl⟩
    rw [decide_eq_true (And.intro ha1 ha2)]
    go_wp2_with fail
    refine (isDay_any b w).mono ?_
    rintro e w1 ⟨rfl, rfl⟩
    rw [decide_eq_true (And.intro hb1 hb2)]
    go_wp2_with fail
    refine (date_any a w ha1 ha2).mono ?_
    rintro e w2 ⟨y1', m1', d1', rfl, hR1q, hN1q, hb⟩
    have HB2 := Held.mk hb
    have hs2 := hb.size
    clear hb
    obtain ⟨e1, e2, e3⟩ := hR1q.inj HR1.out (by rw [hN1q, HE1.out])
    rw [e1, e2, e3]
    clear hR1q hN1q e1 e2 e3
    go_wp2_with fail
    refine (date_any b w2 hb1 hb2).mono ?_
    rintro e w3 ⟨y2', m2', d2', rfl, hR2q, hN2q, hb⟩
    have HB3 : Held (Below w.heap.size w w3) := ⟨HB2.out.trans (hb.mono HB2.out.size)⟩
    have hs3 := HB3.out.size
    clear hb HB2 hs2
    obtain ⟨e1, e2, e3⟩ := hR2q.inj HR2.out (by rw [hN2q, HE2.out])
    rw [e1, e2, e3]
    clear hR2q hN2q e1 e2 e3
    unfold Dt
    go_wp2
    go_ret3
    refine ⟨by rw [Hf.out]; first | rfl | (simp; done) | (congr 4; first | omega | (simp; omega)), ?_⟩
    exact (HB3.out.alloc hs3 _).alloc (by simp; omega) _
set_option maxHeartbeats 8000000 in
set_option maxRecDepth 100000 in
theorem rfrac_out (a b c : Int) (w : World) (h : ¬ (isD a ∧ isD b)) : Calls Tryd.prog 21 #[.int .i64 a, .int .i64 b, .int .i64 c] w fun e w' => e = .returned (.tuple #[.int .i64 0, .int .i64 0, .int .i64 8]) ∧ Below w.heap.size w w' := by
  by_cases ha : 1 ≤ a ∧ a ≤ 3652059
  · have hb : ¬ (1 ≤ b ∧ b ≤ 3652059) := fun hb => h ⟨ha, hb⟩
    have Hb := Held.mk hb
    obtain ⟨ha1, ha2⟩ := ha
    clear h hb
    go_enter Tryd.func21, Tryd.ntmps21
    go_wp2_with fail
    refine (rOf_in a w ha1 ha2).mono ?_
    rintro e w2 ⟨y1, m1, d1, rfl, hR1, hN1, hb⟩
    have HB2 := Held.mk hb
    have hs2 := hb.size
    clear hb
    unfold Dt
    have HB3 : Held (Below w.heap.size w (w2.alloc (.cells #[.int .i64 y1, .int .i64 m1, .int .i64 d1] 23))) := ⟨HB2.out.alloc hs2 _⟩
    go_wp2_with fail
    generalize w2.alloc (.cells #[.int .i64 y1, .int .i64 m1, .int .i64 d1] 23) = w3 at *
    refine (rOf_out b w3 Hb.out).mono ?_
    rintro e w4 ⟨rfl, hb⟩
    have HB4 : Held (Below w.heap.size w w4) := ⟨HB3.out.trans (hb.mono HB3.out.size)⟩
    have hs4 := HB4.out.size
    clear hb
    unfold Dt
    go_wp2
    go_ret3
    exact ⟨rfl, HB4.out.alloc hs4 _⟩
  · have Ha := Held.mk ha
    clear h ha
    go_enter Tryd.func21, Tryd.ntmps21
    go_wp2_with fail
    refine (rOf_out a w Ha.out).mono ?_
    rintro e w2 ⟨rfl, hb⟩
    have HB2 := Held.mk hb
    have hs2 := hb.size
    clear hb
    unfold Dt
    have HB3 : Held (Below w.heap.size w (w2.alloc (.cells #[.int .i64 0, .int .i64 0, .int .i64 0] 23))) := ⟨HB2.out.alloc hs2 _⟩
    go_wp2_with fail
    generalize w2.alloc (.cells #[.int .i64 0, .int .i64 0, .int .i64 0] 23) = w3 at *
    by_cases hb0 : 1 ≤ b ∧ b ≤ 3652059
    · refine (rOf_in b w3 hb0.1 hb0.2).mono ?_
      rintro e w4 ⟨y2, m2, d2, rfl, hR2, hN2, hb⟩
      have HB4 : Held (Below w.heap.size w w4) := ⟨HB3.out.trans (hb.mono HB3.out.size)⟩
      have hs4 := HB4.out.size
      clear hb hb0 hR2 hN2
      unfold Dt
      go_wp2
      go_ret3
      exact ⟨rfl, HB4.out.alloc hs4 _⟩
    · refine (rOf_out b w3 hb0).mono ?_
      rintro e w4 ⟨rfl, hb⟩
      have HB4 : Held (Below w.heap.size w w4) := ⟨HB3.out.trans (hb.mono HB3.out.size)⟩
      have hs4 := HB4.out.size
      clear hb hb0
      unfold Dt
      go_wp2
      go_ret3
      exact ⟨rfl, HB4.out.alloc hs4 _⟩
set_option maxHeartbeats 8000000 in
set_option maxRecDepth 100000 in
theorem rfrac_arg (a b c : Int) (w : World) (ha : isD a) (hb : isD b) (h : c < 0 ∨ 3 < c ∨ b < a) : Calls Tryd.prog 21 #[.int .i64 a, .int .i64 b, .int .i64 c] w fun e w' => e = .returned (.tuple #[.int .i64 0, .int .i64 0, .int .i64 1]) ∧ Below w.heap.size w w' := by
  obtain ⟨ha1, ha2⟩ := ha
  obtain ⟨hb1, hb2⟩ := hb
  have hc : decide (c < 0) = true ∨ decide (c < 0) = false ∧ decide (3 < c) = true ∨ decide (c < 0) = false ∧ decide (3 < c) = false ∧ decide (b < a) = true := by simp only [decide_eq_true_eq, decide_eq_false_iff_not]; omega
  clear h
  rcases hc with c1 | ⟨c1, c2⟩ | ⟨c1, c2, c3⟩ <;>
  · go_enter Tryd.func21, Tryd.ntmps21
    go_wp2_with fail
    refine (rOf_in a w ha1 ha2).mono ?_
    rintro e w2 ⟨y1, m1, d1, rfl, hR1, hN1, hb⟩
    have HB2 := Held.mk hb
    have hs2 := hb.size
    clear hb hR1 hN1
    unfold Dt
    have HB3 : Held (Below w.heap.size w (w2.alloc (.cells #[.int .i64 y1, .int .i64 m1, .int .i64 d1] 23))) := ⟨HB2.out.alloc hs2 _⟩
    go_wp2_with fail
    generalize w2.alloc (.cells #[.int .i64 y1, .int .i64 m1, .int .i64 d1] 23) = w3 at *
    refine (rOf_in b w3 hb1 hb2).mono ?_
    rintro e w4 ⟨y2, m2, d2, rfl, hR2, hN2, hb⟩
    have HB4 : Held (Below w.heap.size w w4) := ⟨HB3.out.trans (hb.mono HB3.out.size)⟩
    have hs4 := HB4.out.size
    clear hb hR2 hN2
    unfold Dt
    go_wp2
    go_ret3
    exact ⟨rfl, HB4.out.alloc hs4 _⟩
set_option maxHeartbeats 8000000 in
set_option maxRecDepth 100000 in
theorem rfrac_days (a b c : Int) (w : World) (ha : isD a) (hb : isD b) (hab : a ≤ b) (hc : c = 0 ∨ c = 1) : Calls Tryd.prog 21 #[.int .i64 a, .int .i64 b, .int .i64 c] w fun e w' => e = .returned (.tuple #[.int .i64 (b - a), .int .i64 (if c = 0 then 360 else 365), .int .i64 0]) ∧ Below w.heap.size w w' := by
  obtain ⟨ha1, ha2⟩ := ha
  obtain ⟨hb1, hb2⟩ := hb
  have c3 : decide (b < a) = false := decide_eq_false (by omega)
  rcases hc with rfl | rfl <;>
  · go_enter Tryd.func21, Tryd.ntmps21
    go_wp2_with fail
    refine (rOf_in a w ha1 ha2).mono ?_
    rintro e w2 ⟨y1, m1, d1, rfl, hR1q, hN1q, hb⟩
    have HB2 := Held.mk hb
    have hs2 := hb.size
    clear hb
    unfold Dt
    have HB3 : Held (Below w.heap.size w (w2.alloc (.cells #[.int .i64 y1, .int .i64 m1, .int .i64 d1] 23))) := ⟨HB2.out.alloc hs2 _⟩
    go_wp2_with fail
    generalize w2.alloc (.cells #[.int .i64 y1, .int .i64 m1, .int .i64 d1] 23) = w3 at *
    refine (rOf_in b w3 hb1 hb2).mono ?_
    rintro e w4 ⟨y2, m2, d2, rfl, hR2q, hN2q, hb⟩
    have HB4 : Held (Below w.heap.size w w4) := ⟨HB3.out.trans (hb.mono HB3.out.size)⟩
    have hs4 := HB4.out.size
    clear hb hR2q hN2q
    unfold Dt
    go_wp2
    go_ret3
    exact ⟨rfl, HB4.out.alloc hs4 _⟩
set_option maxHeartbeats 8000000 in
set_option maxRecDepth 100000 in
theorem rfrac_thirty (a b c y1 m1 d1 y2 m2 d2 : Int) (w : World) (hab : a ≤ b) (hc : c = 2 ∨ c = 3) (hR1 : Right y1 m1 d1) (hE1 : numI y1 m1 d1 = a) (hR2 : Right y2 m2 d2) (hE2 : numI y2 m2 d2 = b) : Calls Tryd.prog 21 #[.int .i64 a, .int .i64 b, .int .i64 c] w fun e w' => e = .returned (.tuple #[.int .i64 (frI c y1 m1 d1 y2 m2 d2), .int .i64 360, .int .i64 0]) ∧ Below w.heap.size w w' := by
  obtain ⟨ha1, ha2⟩ := hR1.last
  obtain ⟨hb1, hb2⟩ := hR2.last
  rw [hE1] at ha1 ha2
  rw [hE2] at hb1 hb2
  have c3 : decide (b < a) = false := decide_eq_false (by omega)
  have HR1 := Held.mk hR1
  have HR2 := Held.mk hR2
  have HE1 := Held.mk hE1
  have HE2 := Held.mk hE2
  have y1a := hR1.y1
  have y1b := hR1.y2
  have y2a := hR2.y1
  have y2b := hR2.y2
  have m1a := hR1.m1
  have m1b := hR1.m2
  have m2a := hR2.m1
  have m2b := hR2.m2
  have d1a := hR1.d1
  have d2a := hR2.d1
  have d1b : d1 ≤ 31 := Int.le_trans hR1.d2 (len_hi y1 m1 m1a m1b)
  have d2b : d2 ≤ 31 := Int.le_trans hR2.d2 (len_hi y2 m2 m2a m2b)
  obtain ⟨hc, h1, h2⟩ := fr_cases hc d1b d2b
  have Hf : Held (frI c y1 m1 d1 y2 m2 d2 = 360 * (y2 - y1) + 30 * (m2 - m1) + (if c = 3 ∨ 30 ≤ d1 then (if 31 ≤ d2 then 30 else d2) else d2) - (if 31 ≤ d1 then 30 else d1)) := ⟨rfl⟩
  clear hR1 hR2 hE1 hE2
  have hq1 : (d1 ≤ 29 ∧ decide (30 < d1) = false ∧ decide (30 ≤ d1) = false ∧ (d1 == 31) = false ∧ (d1 == 30) = false ∧ (if 30 < d1 then (30 : Int) else d1) = d1) ∨ d1 = 30 ∨ d1 = 31 := by
    rcases h1 with h | h | h
    · exact .inl ⟨h, decide_eq_false (by omega), decide_eq_false (by omega), beq_eq_false_iff_ne.2 (by omega), beq_eq_false_iff_ne.2 (by omega), if_neg (by omega)⟩
    · exact .inr (.inl h)
    · exact .inr (.inr h)
  have hq2 : (d2 ≤ 30 ∧ decide (30 < d2) = false ∧ (d2 == 31) = false ∧ (if 30 < d2 then (30 : Int) else d2) = d2) ∨ d2 = 31 := by
    rcases h2 with h | h
    · exact .inl ⟨h, decide_eq_false (by omega), beq_eq_false_iff_ne.2 (by omega), if_neg (by omega)⟩
    · exact .inr h
  clear h1 h2
  rcases hc with rfl | rfl <;> rcases hq1 with ⟨p1, p2, p3, p4, p5, p6⟩ | rfl | rfl <;> rcases hq2 with ⟨q1, q2, q3, q4⟩ | rfl
  · go_enter Tryd.func21, Tryd.ntmps21
    go_wp2_with fail
    refine (rOf_in a w ha1 ha2).mono ?_
    rintro e w2 ⟨y1', m1', d1', rfl, hR1q, hN1q, hb⟩
    have HB2 := Held.mk hb
    have hs2 := hb.size
    clear hb
    obtain ⟨e1, e2, e3⟩ := hR1q.inj HR1.out (by rw [hN1q, HE1.out])
    rw [e1, e2, e3]
    clear hR1q hN1q e1 e2 e3
    unfold Dt
    have HN2 := Held.mk (Blk.new w2 23 #[.int .i64 y1, .int .i64 m1, .int .i64 d1])
    have HB3 : Held (Below w.heap.size w (w2.alloc (.cells #[.int .i64 y1, .int .i64 m1, .int .i64 d1] 23))) := ⟨HB2.out.alloc hs2 _⟩
    go_wp2_with fail
    generalize w2.alloc (.cells #[.int .i64 y1, .int .i64 m1, .int .i64 d1] 23) = w3 at *
    generalize w2.heap.size = g at *
    refine (rOf_in b w3 hb1 hb2).mono ?_
    rintro e w4 ⟨y2', m2', d2', rfl, hR2q, hN2q, hb⟩
    have HN4 := Held.mk (HN2.out.keep (Keep.of_below hb (fun _ => False)) (fun h => h))
    have HB4 : Held (Below w.heap.size w w4) := ⟨HB3.out.trans (hb.mono HB3.out.size)⟩
    have hs4 := HB4.out.size
    clear hb HB3 HB2
    obtain ⟨e1, e2, e3⟩ := hR2q.inj HR2.out (by rw [hN2q, HE2.out])
    rw [e1, e2, e3]
    clear hR2q hN2q e1 e2 e3
    unfold Dt
    have hlt4 := HN4.out.lt
    have hne : g ≠ w4.heap.size := Nat.ne_of_lt hlt4
    have hne2 : w4.heap.size ≠ g := hne.symm
    have z0 : w4.cell? ⟨g, 0, none⟩ = some (.int .i64 y1) := HN4.out.cell 0
    have z1 : w4.cell? ⟨g, 1, none⟩ = some (.int .i64 m1) := HN4.out.cell 1
    have z2 : w4.cell? ⟨g, 2, none⟩ = some (.int .i64 d1) := HN4.out.cell 2
    have zf : w4.frozen? ⟨g, 2, none⟩ = false := HN4.out.frozen 2
    have a0 : (w4.alloc (.cells #[.int .i64 y2, .int .i64 m2, .int .i64 d2] 23)).cell? ⟨g, 0, none⟩ = some (.int .i64 y1) := (HN4.out.alloc (.cells #[.int .i64 y2, .int .i64 m2, .int .i64 d2] 23)).cell 0
    have a1 : (w4.alloc (.cells #[.int .i64 y2, .int .i64 m2, .int .i64 d2] 23)).cell? ⟨g, 1, none⟩ = some (.int .i64 m1) := (HN4.out.alloc (.cells #[.int .i64 y2, .int .i64 m2, .int .i64 d2] 23)).cell 1
    have a2 : (w4.alloc (.cells #[.int .i64 y2, .int .i64 m2, .int .i64 d2] 23)).cell? ⟨g, 2, none⟩ = some (.int .i64 d1) := (HN4.out.alloc (.cells #[.int .i64 y2, .int .i64 m2, .int .i64 d2] 23)).cell 2
    have an0 : (w4.alloc (.cells #[.int .i64 y2, .int .i64 m2, .int .i64 d2] 23)).cell? ⟨w4.heap.size, 0, none⟩ = some (.int .i64 y2) := (Blk.new w4 23 #[.int .i64 y2, .int .i64 m2, .int .i64 d2]).cell 0
    have an1 : (w4.alloc (.cells #[.int .i64 y2, .int .i64 m2, .int .i64 d2] 23)).cell? ⟨w4.heap.size, 1, none⟩ = some (.int .i64 m2) := (Blk.new w4 23 #[.int .i64 y2, .int .i64 m2, .int .i64 d2]).cell 1
    have an2 : (w4.alloc (.cells #[.int .i64 y2, .int .i64 m2, .int .i64 d2] 23)).cell? ⟨w4.heap.size, 2, none⟩ = some (.int .i64 d2) := (Blk.new w4 23 #[.int .i64 y2, .int .i64 m2, .int .i64 d2]).cell 2
    have af : (w4.alloc (.cells #[.int .i64 y2, .int .i64 m2, .int .i64 d2] 23)).frozen? ⟨g, 2, none⟩ = false := (HN4.out.alloc (.cells #[.int .i64 y2, .int .i64 m2, .int .i64 d2] 23)).frozen 2
    have ag : (w4.alloc (.cells #[.int .i64 y2, .int .i64 m2, .int .i64 d2] 23)).frozen? ⟨w4.heap.size, 2, none⟩ = false := (Blk.new w4 23 #[.int .i64 y2, .int .i64 m2, .int .i64 d2]).frozen 2
    have aB : Held (Below w.heap.size w (w4.alloc (.cells #[.int .i64 y2, .int .i64 m2, .int .i64 d2] 23))) := ⟨(HB4.out.alloc hs4 (.cells #[.int .i64 y2, .int .i64 m2, .int .i64 d2] 23))⟩
    go_wp2
    go_ret3
    refine ⟨by rw [Hf.out]; first | rfl | (simp; done) | (congr 4; first | omega | (simp; omega)), ?_⟩
    first | exact aB.out | exact (HB4.out.setCell hs2 _).alloc (HB4.out.setCell hs2 _).size _
  · go_enter Tryd.func21, Tryd.ntmps21
    go_wp2_with fail
    refine (rOf_in a w ha1 ha2).mono ?_
    rintro e w2 ⟨y1', m1', d1', rfl, hR1q, hN1q, hb⟩
    have HB2 := Held.mk hb
    have hs2 := hb.size
    clear hb
    obtain ⟨e1, e2, e3⟩ := hR1q.inj HR1.out (by rw [hN1q, HE1.out])
    rw [e1, e2, e3]
    clear hR1q hN1q e1 e2 e3
    unfold Dt
    have HN2 := Held.mk (Blk.new w2 23 #[.int .i64 y1, .int .i64 m1, .int .i64 d1])
    have HB3 : Held (Below w.heap.size w (w2.alloc (.cells #[.int .i64 y1, .int .i64 m1, .int .i64 d1] 23))) := ⟨HB2.out.alloc hs2 _⟩
    go_wp2_with fail
    generalize w2.alloc (.cells #[.int .i64 y1, .int .i64 m1, .int .i64 d1] 23) = w3 at *
    generalize w2.heap.size = g at *
    refine (rOf_in b w3 hb1 hb2).mono ?_
    rintro e w4 ⟨y2', m2', d2', rfl, hR2q, hN2q, hb⟩
    have HN4 := Held.mk (HN2.out.keep (Keep.of_below hb (fun _ => False)) (fun h => h))
    have HB4 : Held (Below w.heap.size w w4) := ⟨HB3.out.trans (hb.mono HB3.out.size)⟩
    have hs4 := HB4.out.size
    clear hb HB3 HB2
    obtain ⟨e1, e2, e3⟩ := hR2q.inj HR2.out (by rw [hN2q, HE2.out])
    rw [e1, e2, e3]
    clear hR2q hN2q e1 e2 e3
    unfold Dt
    have hlt4 := HN4.out.lt
    have hne : g ≠ w4.heap.size := Nat.ne_of_lt hlt4
    have hne2 : w4.heap.size ≠ g := hne.symm
    have z0 : w4.cell? ⟨g, 0, none⟩ = some (.int .i64 y1) := HN4.out.cell 0
    have z1 : w4.cell? ⟨g, 1, none⟩ = some (.int .i64 m1) := HN4.out.cell 1
    have z2 : w4.cell? ⟨g, 2, none⟩ = some (.int .i64 d1) := HN4.out.cell 2
    have zf : w4.frozen? ⟨g, 2, none⟩ = false := HN4.out.frozen 2
    have a0 : (w4.alloc (.cells #[.int .i64 y2, .int .i64 m2, .int .i64 31] 23)).cell? ⟨g, 0, none⟩ = some (.int .i64 y1) := (HN4.out.alloc (.cells #[.int .i64 y2, .int .i64 m2, .int .i64 31] 23)).cell 0
    have a1 : (w4.alloc (.cells #[.int .i64 y2, .int .i64 m2, .int .i64 31] 23)).cell? ⟨g, 1, none⟩ = some (.int .i64 m1) := (HN4.out.alloc (.cells #[.int .i64 y2, .int .i64 m2, .int .i64 31] 23)).cell 1
    have a2 : (w4.alloc (.cells #[.int .i64 y2, .int .i64 m2, .int .i64 31] 23)).cell? ⟨g, 2, none⟩ = some (.int .i64 d1) := (HN4.out.alloc (.cells #[.int .i64 y2, .int .i64 m2, .int .i64 31] 23)).cell 2
    have an0 : (w4.alloc (.cells #[.int .i64 y2, .int .i64 m2, .int .i64 31] 23)).cell? ⟨w4.heap.size, 0, none⟩ = some (.int .i64 y2) := (Blk.new w4 23 #[.int .i64 y2, .int .i64 m2, .int .i64 31]).cell 0
    have an1 : (w4.alloc (.cells #[.int .i64 y2, .int .i64 m2, .int .i64 31] 23)).cell? ⟨w4.heap.size, 1, none⟩ = some (.int .i64 m2) := (Blk.new w4 23 #[.int .i64 y2, .int .i64 m2, .int .i64 31]).cell 1
    have an2 : (w4.alloc (.cells #[.int .i64 y2, .int .i64 m2, .int .i64 31] 23)).cell? ⟨w4.heap.size, 2, none⟩ = some (.int .i64 31) := (Blk.new w4 23 #[.int .i64 y2, .int .i64 m2, .int .i64 31]).cell 2
    have af : (w4.alloc (.cells #[.int .i64 y2, .int .i64 m2, .int .i64 31] 23)).frozen? ⟨g, 2, none⟩ = false := (HN4.out.alloc (.cells #[.int .i64 y2, .int .i64 m2, .int .i64 31] 23)).frozen 2
    have ag : (w4.alloc (.cells #[.int .i64 y2, .int .i64 m2, .int .i64 31] 23)).frozen? ⟨w4.heap.size, 2, none⟩ = false := (Blk.new w4 23 #[.int .i64 y2, .int .i64 m2, .int .i64 31]).frozen 2
    have aB : Held (Below w.heap.size w (w4.alloc (.cells #[.int .i64 y2, .int .i64 m2, .int .i64 31] 23))) := ⟨(HB4.out.alloc hs4 (.cells #[.int .i64 y2, .int .i64 m2, .int .i64 31] 23))⟩
    have b0 : (w4.alloc (.cells #[.int .i64 y2, .int .i64 m2, .int .i64 30] 23)).cell? ⟨g, 0, none⟩ = some (.int .i64 y1) := (HN4.out.alloc (.cells #[.int .i64 y2, .int .i64 m2, .int .i64 30] 23)).cell 0
    have b1 : (w4.alloc (.cells #[.int .i64 y2, .int .i64 m2, .int .i64 30] 23)).cell? ⟨g, 1, none⟩ = some (.int .i64 m1) := (HN4.out.alloc (.cells #[.int .i64 y2, .int .i64 m2, .int .i64 30] 23)).cell 1
    have b2 : (w4.alloc (.cells #[.int .i64 y2, .int .i64 m2, .int .i64 30] 23)).cell? ⟨g, 2, none⟩ = some (.int .i64 d1) := (HN4.out.alloc (.cells #[.int .i64 y2, .int .i64 m2, .int .i64 30] 23)).cell 2
    have bn0 : (w4.alloc (.cells #[.int .i64 y2, .int .i64 m2, .int .i64 30] 23)).cell? ⟨w4.heap.size, 0, none⟩ = some (.int .i64 y2) := (Blk.new w4 23 #[.int .i64 y2, .int .i64 m2, .int .i64 30]).cell 0
    have bn1 : (w4.alloc (.cells #[.int .i64 y2, .int .i64 m2, .int .i64 30] 23)).cell? ⟨w4.heap.size, 1, none⟩ = some (.int .i64 m2) := (Blk.new w4 23 #[.int .i64 y2, .int .i64 m2, .int .i64 30]).cell 1
    have bn2 : (w4.alloc (.cells #[.int .i64 y2, .int .i64 m2, .int .i64 30] 23)).cell? ⟨w4.heap.size, 2, none⟩ = some (.int .i64 30) := (Blk.new w4 23 #[.int .i64 y2, .int .i64 m2, .int .i64 30]).cell 2
    have bf : (w4.alloc (.cells #[.int .i64 y2, .int .i64 m2, .int .i64 30] 23)).frozen? ⟨g, 2, none⟩ = false := (HN4.out.alloc (.cells #[.int .i64 y2, .int .i64 m2, .int .i64 30] 23)).frozen 2
    have bg : (w4.alloc (.cells #[.int .i64 y2, .int .i64 m2, .int .i64 30] 23)).frozen? ⟨w4.heap.size, 2, none⟩ = false := (Blk.new w4 23 #[.int .i64 y2, .int .i64 m2, .int .i64 30]).frozen 2
    have bB : Held (Below w.heap.size w (w4.alloc (.cells #[.int .i64 y2, .int .i64 m2, .int .i64 30] 23))) := ⟨(HB4.out.alloc hs4 (.cells #[.int .i64 y2, .int .i64 m2, .int .i64 30] 23))⟩
    go_wp2
    go_ret3
    refine ⟨by rw [Hf.out]; first | rfl | (simp; done) | (congr 4; first | omega | (simp; omega)), ?_⟩
    first | exact aB.out | exact bB.out | exact (HB4.out.setCell hs2 _).alloc (HB4.out.setCell hs2 _).size _
  · go_enter Tryd.func21, Tryd.ntmps21
    go_wp2_with fail
    refine (rOf_in a w ha1 ha2).mono ?_
    rintro e w2 ⟨y1', m1', d1', rfl, hR1q, hN1q, hb⟩
    have HB2 := Held.mk hb
    have hs2 := hb.size
    clear hb
    obtain ⟨e1, e2, e3⟩ := hR1q.inj HR1.out (by rw [hN1q, HE1.out])
    rw [e1, e2, e3]
    clear hR1q hN1q e1 e2 e3
    unfold Dt
    have HN2 := Held.mk (Blk.new w2 23 #[.int .i64 y1, .int .i64 m1, .int .i64 30])
    have HB3 : Held (Below w.heap.size w (w2.alloc (.cells #[.int .i64 y1, .int .i64 m1, .int .i64 30] 23))) := ⟨HB2.out.alloc hs2 _⟩
    go_wp2_with fail
    generalize w2.alloc (.cells #[.int .i64 y1, .int .i64 m1, .int .i64 30] 23) = w3 at *
    generalize w2.heap.size = g at *
    refine (rOf_in b w3 hb1 hb2).mono ?_
    rintro e w4 ⟨y2', m2', d2', rfl, hR2q, hN2q, hb⟩
    have HN4 := Held.mk (HN2.out.keep (Keep.of_below hb (fun _ => False)) (fun h => h))
    have HB4 : Held (Below w.heap.size w w4) := ⟨HB3.out.trans (hb.mono HB3.out.size)⟩
    have hs4 := HB4.out.size
    clear hb HB3 HB2
    obtain ⟨e1, e2, e3⟩ := hR2q.inj HR2.out (by rw [hN2q, HE2.out])
    rw [e1, e2, e3]
    clear hR2q hN2q e1 e2 e3
    unfold Dt
    have hlt4 := HN4.out.lt
    have hne : g ≠ w4.heap.size := Nat.ne_of_lt hlt4
    have hne2 : w4.heap.size ≠ g := hne.symm
    have z0 : w4.cell? ⟨g, 0, none⟩ = some (.int .i64 y1) := HN4.out.cell 0
    have z1 : w4.cell? ⟨g, 1, none⟩ = some (.int .i64 m1) := HN4.out.cell 1
    have z2 : w4.cell? ⟨g, 2, none⟩ = some (.int .i64 30) := HN4.out.cell 2
    have zf : w4.frozen? ⟨g, 2, none⟩ = false := HN4.out.frozen 2
    have a0 : (w4.alloc (.cells #[.int .i64 y2, .int .i64 m2, .int .i64 d2] 23)).cell? ⟨g, 0, none⟩ = some (.int .i64 y1) := (HN4.out.alloc (.cells #[.int .i64 y2, .int .i64 m2, .int .i64 d2] 23)).cell 0
    have a1 : (w4.alloc (.cells #[.int .i64 y2, .int .i64 m2, .int .i64 d2] 23)).cell? ⟨g, 1, none⟩ = some (.int .i64 m1) := (HN4.out.alloc (.cells #[.int .i64 y2, .int .i64 m2, .int .i64 d2] 23)).cell 1
    have a2 : (w4.alloc (.cells #[.int .i64 y2, .int .i64 m2, .int .i64 d2] 23)).cell? ⟨g, 2, none⟩ = some (.int .i64 30) := (HN4.out.alloc (.cells #[.int .i64 y2, .int .i64 m2, .int .i64 d2] 23)).cell 2
    have an0 : (w4.alloc (.cells #[.int .i64 y2, .int .i64 m2, .int .i64 d2] 23)).cell? ⟨w4.heap.size, 0, none⟩ = some (.int .i64 y2) := (Blk.new w4 23 #[.int .i64 y2, .int .i64 m2, .int .i64 d2]).cell 0
    have an1 : (w4.alloc (.cells #[.int .i64 y2, .int .i64 m2, .int .i64 d2] 23)).cell? ⟨w4.heap.size, 1, none⟩ = some (.int .i64 m2) := (Blk.new w4 23 #[.int .i64 y2, .int .i64 m2, .int .i64 d2]).cell 1
    have an2 : (w4.alloc (.cells #[.int .i64 y2, .int .i64 m2, .int .i64 d2] 23)).cell? ⟨w4.heap.size, 2, none⟩ = some (.int .i64 d2) := (Blk.new w4 23 #[.int .i64 y2, .int .i64 m2, .int .i64 d2]).cell 2
    have af : (w4.alloc (.cells #[.int .i64 y2, .int .i64 m2, .int .i64 d2] 23)).frozen? ⟨g, 2, none⟩ = false := (HN4.out.alloc (.cells #[.int .i64 y2, .int .i64 m2, .int .i64 d2] 23)).frozen 2
    have ag : (w4.alloc (.cells #[.int .i64 y2, .int .i64 m2, .int .i64 d2] 23)).frozen? ⟨w4.heap.size, 2, none⟩ = false := (Blk.new w4 23 #[.int .i64 y2, .int .i64 m2, .int .i64 d2]).frozen 2
    have aB : Held (Below w.heap.size w (w4.alloc (.cells #[.int .i64 y2, .int .i64 m2, .int .i64 d2] 23))) := ⟨(HB4.out.alloc hs4 (.cells #[.int .i64 y2, .int .i64 m2, .int .i64 d2] 23))⟩
    go_wp2
    go_ret3
    refine ⟨by rw [Hf.out]; first | rfl | (simp; done) | (congr 4; first | omega | (simp; omega)), ?_⟩
    first | exact aB.out | exact (HB4.out.setCell hs2 _).alloc (HB4.out.setCell hs2 _).size _
  · go_enter Tryd.func21, Tryd.ntmps21
    go_wp2_with fail
    refine (rOf_in a w ha1 ha2).mono ?_
    rintro e w2 ⟨y1', m1', d1', rfl, hR1q, hN1q, hb⟩
    have HB2 := Held.mk hb
    have hs2 := hb.size
    clear hb
    obtain ⟨e1, e2, e3⟩ := hR1q.inj HR1.out (by rw [hN1q, HE1.out])
    rw [e1, e2, e3]
    clear hR1q hN1q e1 e2 e3
    unfold Dt
    have HN2 := Held.mk (Blk.new w2 23 #[.int .i64 y1, .int .i64 m1, .int .i64 30])
    have HB3 : Held (Below w.heap.size w (w2.alloc (.cells #[.int .i64 y1, .int .i64 m1, .int .i64 30] 23))) := ⟨HB2.out.alloc hs2 _⟩
    go_wp2_with fail
    generalize w2.alloc (.cells #[.int .i64 y1, .int .i64 m1, .int .i64 30] 23) = w3 at *
    generalize w2.heap.size = g at *
    refine (rOf_in b w3 hb1 hb2).mono ?_
    rintro e w4 ⟨y2', m2', d2', rfl, hR2q, hN2q, hb⟩
    have HN4 := Held.mk (HN2.out.keep (Keep.of_below hb (fun _ => False)) (fun h => h))
    have HB4 : Held (Below w.heap.size w w4) := ⟨HB3.out.trans (hb.mono HB3.out.size)⟩
    have hs4 := HB4.out.size
    clear hb HB3 HB2
    obtain ⟨e1, e2, e3⟩ := hR2q.inj HR2.out (by rw [hN2q, HE2.out])
    rw [e1, e2, e3]
    clear hR2q hN2q e1 e2 e3
    unfold Dt
    have hlt4 := HN4.out.lt
    have hne : g ≠ w4.heap.size := Nat.ne_of_lt hlt4
    have hne2 : w4.heap.size ≠ g := hne.symm
    have z0 : w4.cell? ⟨g, 0, none⟩ = some (.int .i64 y1) := HN4.out.cell 0
    have z1 : w4.cell? ⟨g, 1, none⟩ = some (.int .i64 m1) := HN4.out.cell 1
    have z2 : w4.cell? ⟨g, 2, none⟩ = some (.int .i64 30) := HN4.out.cell 2
    have zf : w4.frozen? ⟨g, 2, none⟩ = false := HN4.out.frozen 2
    have a0 : (w4.alloc (.cells #[.int .i64 y2, .int .i64 m2, .int .i64 31] 23)).cell? ⟨g, 0, none⟩ = some (.int .i64 y1) := (HN4.out.alloc (.cells #[.int .i64 y2, .int .i64 m2, .int .i64 31] 23)).cell 0
    have a1 : (w4.alloc (.cells #[.int .i64 y2, .int .i64 m2, .int .i64 31] 23)).cell? ⟨g, 1, none⟩ = some (.int .i64 m1) := (HN4.out.alloc (.cells #[.int .i64 y2, .int .i64 m2, .int .i64 31] 23)).cell 1
    have a2 : (w4.alloc (.cells #[.int .i64 y2, .int .i64 m2, .int .i64 31] 23)).cell? ⟨g, 2, none⟩ = some (.int .i64 30) := (HN4.out.alloc (.cells #[.int .i64 y2, .int .i64 m2, .int .i64 31] 23)).cell 2
    have an0 : (w4.alloc (.cells #[.int .i64 y2, .int .i64 m2, .int .i64 31] 23)).cell? ⟨w4.heap.size, 0, none⟩ = some (.int .i64 y2) := (Blk.new w4 23 #[.int .i64 y2, .int .i64 m2, .int .i64 31]).cell 0
    have an1 : (w4.alloc (.cells #[.int .i64 y2, .int .i64 m2, .int .i64 31] 23)).cell? ⟨w4.heap.size, 1, none⟩ = some (.int .i64 m2) := (Blk.new w4 23 #[.int .i64 y2, .int .i64 m2, .int .i64 31]).cell 1
    have an2 : (w4.alloc (.cells #[.int .i64 y2, .int .i64 m2, .int .i64 31] 23)).cell? ⟨w4.heap.size, 2, none⟩ = some (.int .i64 31) := (Blk.new w4 23 #[.int .i64 y2, .int .i64 m2, .int .i64 31]).cell 2
    have af : (w4.alloc (.cells #[.int .i64 y2, .int .i64 m2, .int .i64 31] 23)).frozen? ⟨g, 2, none⟩ = false := (HN4.out.alloc (.cells #[.int .i64 y2, .int .i64 m2, .int .i64 31] 23)).frozen 2
    have ag : (w4.alloc (.cells #[.int .i64 y2, .int .i64 m2, .int .i64 31] 23)).frozen? ⟨w4.heap.size, 2, none⟩ = false := (Blk.new w4 23 #[.int .i64 y2, .int .i64 m2, .int .i64 31]).frozen 2
    have aB : Held (Below w.heap.size w (w4.alloc (.cells #[.int .i64 y2, .int .i64 m2, .int .i64 31] 23))) := ⟨(HB4.out.alloc hs4 (.cells #[.int .i64 y2, .int .i64 m2, .int .i64 31] 23))⟩
    have b0 : (w4.alloc (.cells #[.int .i64 y2, .int .i64 m2, .int .i64 30] 23)).cell? ⟨g, 0, none⟩ = some (.int .i64 y1) := (HN4.out.alloc (.cells #[.int .i64 y2, .int .i64 m2, .int .i64 30] 23)).cell 0
    have b1 : (w4.alloc (.cells #[.int .i64 y2, .int .i64 m2, .int .i64 30] 23)).cell? ⟨g, 1, none⟩ = some (.int .i64 m1) := (HN4.out.alloc (.cells #[.int .i64 y2, .int .i64 m2, .int .i64 30] 23)).cell 1
    have b2 : (w4.alloc (.cells #[.int .i64 y2, .int .i64 m2, .int .i64 30] 23)).cell? ⟨g, 2, none⟩ = some (.int .i64 30) := (HN4.out.alloc (.cells #[.int .i64 y2, .int .i64 m2, .int .i64 30] 23)).cell 2
    have bn0 : (w4.alloc (.cells #[.int .i64 y2, .int .i64 m2, .int .i64 30] 23)).cell? ⟨w4.heap.size, 0, none⟩ = some (.int .i64 y2) := (Blk.new w4 23 #[.int .i64 y2, .int .i64 m2, .int .i64 30]).cell 0
    have bn1 : (w4.alloc (.cells #[.int .i64 y2, .int .i64 m2, .int .i64 30] 23)).cell? ⟨w4.heap.size, 1, none⟩ = some (.int .i64 m2) := (Blk.new w4 23 #[.int .i64 y2, .int .i64 m2, .int .i64 30]).cell 1
    have bn2 : (w4.alloc (.cells #[.int .i64 y2, .int .i64 m2, .int .i64 30] 23)).cell? ⟨w4.heap.size, 2, none⟩ = some (.int .i64 30) := (Blk.new w4 23 #[.int .i64 y2, .int .i64 m2, .int .i64 30]).cell 2
    have bf : (w4.alloc (.cells #[.int .i64 y2, .int .i64 m2, .int .i64 30] 23)).frozen? ⟨g, 2, none⟩ = false := (HN4.out.alloc (.cells #[.int .i64 y2, .int .i64 m2, .int .i64 30] 23)).frozen 2
    have bg : (w4.alloc (.cells #[.int .i64 y2, .int .i64 m2, .int .i64 30] 23)).frozen? ⟨w4.heap.size, 2, none⟩ = false := (Blk.new w4 23 #[.int .i64 y2, .int .i64 m2, .int .i64 30]).frozen 2
    have bB : Held (Below w.heap.size w (w4.alloc (.cells #[.int .i64 y2, .int .i64 m2, .int .i64 30] 23))) := ⟨(HB4.out.alloc hs4 (.cells #[.int .i64 y2, .int .i64 m2, .int .i64 30] 23))⟩
    go_wp2
    go_ret3
    refine ⟨by rw [Hf.out]; first | rfl | (simp; done) | (congr 4; first | omega | (simp; omega)), ?_⟩
    first | exact aB.out | exact bB.out | exact (HB4.out.setCell hs2 _).alloc (HB4.out.setCell hs2 _).size _
  · go_enter Tryd.func21, Tryd.ntmps21
    go_wp2_with fail
    refine (rOf_in a w ha1 ha2).mono ?_
    rintro e w2 ⟨y1', m1', d1', rfl, hR1q, hN1q, hb⟩
    have HB2 := Held.mk hb
    have hs2 := hb.size
    clear hb
    obtain ⟨e1, e2, e3⟩ := hR1q.inj HR1.out (by rw [hN1q, HE1.out])
    rw [e1, e2, e3]
    clear hR1q hN1q e1 e2 e3
    unfold Dt
    have HN2 := Held.mk (Blk.new w2 23 #[.int .i64 y1, .int .i64 m1, .int .i64 31])
    have HB3 : Held (Below w.heap.size w (w2.alloc (.cells #[.int .i64 y1, .int .i64 m1, .int .i64 31] 23))) := ⟨HB2.out.alloc hs2 _⟩
    go_wp2_with fail
    generalize w2.alloc (.cells #[.int .i64 y1, .int .i64 m1, .int .i64 31] 23) = w3 at *
    generalize w2.heap.size = g at *
    refine (rOf_in b w3 hb1 hb2).mono ?_
    rintro e w4 ⟨y2', m2', d2', rfl, hR2q, hN2q, hb⟩
    have HN4 := Held.mk (HN2.out.keep (Keep.of_below hb (fun _ => False)) (fun h => h))
    have HB4 : Held (Below w.heap.size w w4) := ⟨HB3.out.trans (hb.mono HB3.out.size)⟩
    have hs4 := HB4.out.size
    clear hb HB3 HB2
    obtain ⟨e1, e2, e3⟩ := hR2q.inj HR2.out (by rw [hN2q, HE2.out])
    rw [e1, e2, e3]
    clear hR2q hN2q e1 e2 e3
    unfold Dt
    have hlt4 := HN4.out.lt
    have hne : g ≠ w4.heap.size := Nat.ne_of_lt hlt4
    have hne2 : w4.heap.size ≠ g := hne.symm
    have z0 : w4.cell? ⟨g, 0, none⟩ = some (.int .i64 y1) := HN4.out.cell 0
    have z1 : w4.cell? ⟨g, 1, none⟩ = some (.int .i64 m1) := HN4.out.cell 1
    have z2 : w4.cell? ⟨g, 2, none⟩ = some (.int .i64 31) := HN4.out.cell 2
    have zf : w4.frozen? ⟨g, 2, none⟩ = false := HN4.out.frozen 2
    have a0 : (w4.alloc (.cells #[.int .i64 y2, .int .i64 m2, .int .i64 d2] 23)).cell? ⟨g, 0, none⟩ = some (.int .i64 y1) := (HN4.out.alloc (.cells #[.int .i64 y2, .int .i64 m2, .int .i64 d2] 23)).cell 0
    have a1 : (w4.alloc (.cells #[.int .i64 y2, .int .i64 m2, .int .i64 d2] 23)).cell? ⟨g, 1, none⟩ = some (.int .i64 m1) := (HN4.out.alloc (.cells #[.int .i64 y2, .int .i64 m2, .int .i64 d2] 23)).cell 1
    have a2 : (w4.alloc (.cells #[.int .i64 y2, .int .i64 m2, .int .i64 d2] 23)).cell? ⟨g, 2, none⟩ = some (.int .i64 31) := (HN4.out.alloc (.cells #[.int .i64 y2, .int .i64 m2, .int .i64 d2] 23)).cell 2
    have an0 : (w4.alloc (.cells #[.int .i64 y2, .int .i64 m2, .int .i64 d2] 23)).cell? ⟨w4.heap.size, 0, none⟩ = some (.int .i64 y2) := (Blk.new w4 23 #[.int .i64 y2, .int .i64 m2, .int .i64 d2]).cell 0
    have an1 : (w4.alloc (.cells #[.int .i64 y2, .int .i64 m2, .int .i64 d2] 23)).cell? ⟨w4.heap.size, 1, none⟩ = some (.int .i64 m2) := (Blk.new w4 23 #[.int .i64 y2, .int .i64 m2, .int .i64 d2]).cell 1
    have an2 : (w4.alloc (.cells #[.int .i64 y2, .int .i64 m2, .int .i64 d2] 23)).cell? ⟨w4.heap.size, 2, none⟩ = some (.int .i64 d2) := (Blk.new w4 23 #[.int .i64 y2, .int .i64 m2, .int .i64 d2]).cell 2
    have af : (w4.alloc (.cells #[.int .i64 y2, .int .i64 m2, .int .i64 d2] 23)).frozen? ⟨g, 2, none⟩ = false := (HN4.out.alloc (.cells #[.int .i64 y2, .int .i64 m2, .int .i64 d2] 23)).frozen 2
    have ag : (w4.alloc (.cells #[.int .i64 y2, .int .i64 m2, .int .i64 d2] 23)).frozen? ⟨w4.heap.size, 2, none⟩ = false := (Blk.new w4 23 #[.int .i64 y2, .int .i64 m2, .int .i64 d2]).frozen 2
    have aB : Held (Below w.heap.size w (w4.alloc (.cells #[.int .i64 y2, .int .i64 m2, .int .i64 d2] 23))) := ⟨(HB4.out.alloc hs4 (.cells #[.int .i64 y2, .int .i64 m2, .int .i64 d2] 23))⟩
    have c0 : ((w4.alloc (.cells #[.int .i64 y2, .int .i64 m2, .int .i64 d2] 23)).setCell ⟨g, 2, none⟩ (.int .i64 30)).cell? ⟨g, 0, none⟩ = some (.int .i64 y1) := ((HN4.out.alloc (.cells #[.int .i64 y2, .int .i64 m2, .int .i64 d2] 23)).set_ 2 (.int .i64 30)).cell 0
    have c1 : ((w4.alloc (.cells #[.int .i64 y2, .int .i64 m2, .int .i64 d2] 23)).setCell ⟨g, 2, none⟩ (.int .i64 30)).cell? ⟨g, 1, none⟩ = some (.int .i64 m1) := ((HN4.out.alloc (.cells #[.int .i64 y2, .int .i64 m2, .int .i64 d2] 23)).set_ 2 (.int .i64 30)).cell 1
    have c2 : ((w4.alloc (.cells #[.int .i64 y2, .int .i64 m2, .int .i64 d2] 23)).setCell ⟨g, 2, none⟩ (.int .i64 30)).cell? ⟨g, 2, none⟩ = some (.int .i64 30) := ((HN4.out.alloc (.cells #[.int .i64 y2, .int .i64 m2, .int .i64 d2] 23)).set_ 2 (.int .i64 30)).cell 2
    have cn0 : ((w4.alloc (.cells #[.int .i64 y2, .int .i64 m2, .int .i64 d2] 23)).setCell ⟨g, 2, none⟩ (.int .i64 30)).cell? ⟨w4.heap.size, 0, none⟩ = some (.int .i64 y2) := ((Blk.new w4 23 #[.int .i64 y2, .int .i64 m2, .int .i64 d2]).far hne2 (.int .i64 30)).cell 0
    have cn1 : ((w4.alloc (.cells #[.int .i64 y2, .int .i64 m2, .int .i64 d2] 23)).setCell ⟨g, 2, none⟩ (.int .i64 30)).cell? ⟨w4.heap.size, 1, none⟩ = some (.int .i64 m2) := ((Blk.new w4 23 #[.int .i64 y2, .int .i64 m2, .int .i64 d2]).far hne2 (.int .i64 30)).cell 1
    have cn2 : ((w4.alloc (.cells #[.int .i64 y2, .int .i64 m2, .int .i64 d2] 23)).setCell ⟨g, 2, none⟩ (.int .i64 30)).cell? ⟨w4.heap.size, 2, none⟩ = some (.int .i64 d2) := ((Blk.new w4 23 #[.int .i64 y2, .int .i64 m2, .int .i64 d2]).far hne2 (.int .i64 30)).cell 2
    have cf : ((w4.alloc (.cells #[.int .i64 y2, .int .i64 m2, .int .i64 d2] 23)).setCell ⟨g, 2, none⟩ (.int .i64 30)).frozen? ⟨g, 2, none⟩ = false := ((HN4.out.alloc (.cells #[.int .i64 y2, .int .i64 m2, .int .i64 d2] 23)).set_ 2 (.int .i64 30)).frozen 2
    have cg : ((w4.alloc (.cells #[.int .i64 y2, .int .i64 m2, .int .i64 d2] 23)).setCell ⟨g, 2, none⟩ (.int .i64 30)).frozen? ⟨w4.heap.size, 2, none⟩ = false := ((Blk.new w4 23 #[.int .i64 y2, .int .i64 m2, .int .i64 d2]).far hne2 (.int .i64 30)).frozen 2
    have cB : Held (Below w.heap.size w ((w4.alloc (.cells #[.int .i64 y2, .int .i64 m2, .int .i64 d2] 23)).setCell ⟨g, 2, none⟩ (.int .i64 30))) := ⟨((HB4.out.alloc hs4 (.cells #[.int .i64 y2, .int .i64 m2, .int .i64 d2] 23)).setCell hs2 (.int .i64 30))⟩
    go_wp2
    go_ret3
    refine ⟨by rw [Hf.out]; first | rfl | (simp; done) | (congr 4; first | omega | (simp; omega)), ?_⟩
    first | exact aB.out | exact cB.out | exact (HB4.out.setCell hs2 _).alloc (HB4.out.setCell hs2 _).size _
  · go_enter Tryd.func21, Tryd.ntmps21
    go_wp2_with fail
    refine (rOf_in a w ha1 ha2).mono ?_
    rintro e w2 ⟨y1', m1', d1', rfl, hR1q, hN1q, hb⟩
    have HB2 := Held.mk hb
    have hs2 := hb.size
    clear hb
    obtain ⟨e1, e2, e3⟩ := hR1q.inj HR1.out (by rw [hN1q, HE1.out])
    rw [e1, e2, e3]
    clear hR1q hN1q e1 e2 e3
    unfold Dt
    have HN2 := Held.mk (Blk.new w2 23 #[.int .i64 y1, .int .i64 m1, .int .i64 31])
    have HB3 : Held (Below w.heap.size w (w2.alloc (.cells #[.int .i64 y1, .int .i64 m1, .int .i64 31] 23))) := ⟨HB2.out.alloc hs2 _⟩
    go_wp2_with fail
    generalize w2.alloc (.cells #[.int .i64 y1, .int .i64 m1, .int .i64 31] 23) = w3 at *
    generalize w2.heap.size = g at *
    refine (rOf_in b w3 hb1 hb2).mono ?_
    rintro e w4 ⟨y2', m2', d2', rfl, hR2q, hN2q, hb⟩
    have HN4 := Held.mk (HN2.out.keep (Keep.of_below hb (fun _ => False)) (fun h => h))
    have HB4 : Held (Below w.heap.size w w4) := ⟨HB3.out.trans (hb.mono HB3.out.size)⟩
    have hs4 := HB4.out.size
    clear hb HB3 HB2
    obtain ⟨e1, e2, e3⟩ := hR2q.inj HR2.out (by rw [hN2q, HE2.out])
    rw [e1, e2, e3]
    clear hR2q hN2q e1 e2 e3
    unfold Dt
    have hlt4 := HN4.out.lt
    have hne : g ≠ w4.heap.size := Nat.ne_of_lt hlt4
    have hne2 : w4.heap.size ≠ g := hne.symm
    have z0 : w4.cell? ⟨g, 0, none⟩ = some (.int .i64 y1) := HN4.out.cell 0
    have z1 : w4.cell? ⟨g, 1, none⟩ = some (.int .i64 m1) := HN4.out.cell 1
    have z2 : w4.cell? ⟨g, 2, none⟩ = some (.int .i64 31) := HN4.out.cell 2
    have zf : w4.frozen? ⟨g, 2, none⟩ = false := HN4.out.frozen 2
    have a0 : (w4.alloc (.cells #[.int .i64 y2, .int .i64 m2, .int .i64 31] 23)).cell? ⟨g, 0, none⟩ = some (.int .i64 y1) := (HN4.out.alloc (.cells #[.int .i64 y2, .int .i64 m2, .int .i64 31] 23)).cell 0
    have a1 : (w4.alloc (.cells #[.int .i64 y2, .int .i64 m2, .int .i64 31] 23)).cell? ⟨g, 1, none⟩ = some (.int .i64 m1) := (HN4.out.alloc (.cells #[.int .i64 y2, .int .i64 m2, .int .i64 31] 23)).cell 1
    have a2 : (w4.alloc (.cells #[.int .i64 y2, .int .i64 m2, .int .i64 31] 23)).cell? ⟨g, 2, none⟩ = some (.int .i64 31) := (HN4.out.alloc (.cells #[.int .i64 y2, .int .i64 m2, .int .i64 31] 23)).cell 2
    have an0 : (w4.alloc (.cells #[.int .i64 y2, .int .i64 m2, .int .i64 31] 23)).cell? ⟨w4.heap.size, 0, none⟩ = some (.int .i64 y2) := (Blk.new w4 23 #[.int .i64 y2, .int .i64 m2, .int .i64 31]).cell 0
    have an1 : (w4.alloc (.cells #[.int .i64 y2, .int .i64 m2, .int .i64 31] 23)).cell? ⟨w4.heap.size, 1, none⟩ = some (.int .i64 m2) := (Blk.new w4 23 #[.int .i64 y2, .int .i64 m2, .int .i64 31]).cell 1
    have an2 : (w4.alloc (.cells #[.int .i64 y2, .int .i64 m2, .int .i64 31] 23)).cell? ⟨w4.heap.size, 2, none⟩ = some (.int .i64 31) := (Blk.new w4 23 #[.int .i64 y2, .int .i64 m2, .int .i64 31]).cell 2
    have af : (w4.alloc (.cells #[.int .i64 y2, .int .i64 m2, .int .i64 31] 23)).frozen? ⟨g, 2, none⟩ = false := (HN4.out.alloc (.cells #[.int .i64 y2, .int .i64 m2, .int .i64 31] 23)).frozen 2
    have ag : (w4.alloc (.cells #[.int .i64 y2, .int .i64 m2, .int .i64 31] 23)).frozen? ⟨w4.heap.size, 2, none⟩ = false := (Blk.new w4 23 #[.int .i64 y2, .int .i64 m2, .int .i64 31]).frozen 2
    have aB : Held (Below w.heap.size w (w4.alloc (.cells #[.int .i64 y2, .int .i64 m2, .int .i64 31] 23))) := ⟨(HB4.out.alloc hs4 (.cells #[.int .i64 y2, .int .i64 m2, .int .i64 31] 23))⟩
    have b0 : (w4.alloc (.cells #[.int .i64 y2, .int .i64 m2, .int .i64 30] 23)).cell? ⟨g, 0, none⟩ = some (.int .i64 y1) := (HN4.out.alloc (.cells #[.int .i64 y2, .int .i64 m2, .int .i64 30] 23)).cell 0
    have b1 : (w4.alloc (.cells #[.int .i64 y2, .int .i64 m2, .int .i64 30] 23)).cell? ⟨g, 1, none⟩ = some (.int .i64 m1) := (HN4.out.alloc (.cells #[.int .i64 y2, .int .i64 m2, .int .i64 30] 23)).cell 1
    have b2 : (w4.alloc (.cells #[.int .i64 y2, .int .i64 m2, .int .i64 30] 23)).cell? ⟨g, 2, none⟩ = some (.int .i64 31) := (HN4.out.alloc (.cells #[.int .i64 y2, .int .i64 m2, .int .i64 30] 23)).cell 2
    have bn0 : (w4.alloc (.cells #[.int .i64 y2, .int .i64 m2, .int .i64 30] 23)).cell? ⟨w4.heap.size, 0, none⟩ = some (.int .i64 y2) := (Blk.new w4 23 #[.int .i64 y2, .int .i64 m2, .int .i64 30]).cell 0
    have bn1 : (w4.alloc (.cells #[.int .i64 y2, .int .i64 m2, .int .i64 30] 23)).cell? ⟨w4.heap.size, 1, none⟩ = some (.int .i64 m2) := (Blk.new w4 23 #[.int .i64 y2, .int .i64 m2, .int .i64 30]).cell 1
    have bn2 : (w4.alloc (.cells #[.int .i64 y2, .int .i64 m2, .int .i64 30] 23)).cell? ⟨w4.heap.size, 2, none⟩ = some (.int .i64 30) := (Blk.new w4 23 #[.int .i64 y2, .int .i64 m2, .int .i64 30]).cell 2
    have bf : (w4.alloc (.cells #[.int .i64 y2, .int .i64 m2, .int .i64 30] 23)).frozen? ⟨g, 2, none⟩ = false := (HN4.out.alloc (.cells #[.int .i64 y2, .int .i64 m2, .int .i64 30] 23)).frozen 2
    have bg : (w4.alloc (.cells #[.int .i64 y2, .int .i64 m2, .int .i64 30] 23)).frozen? ⟨w4.heap.size, 2, none⟩ = false := (Blk.new w4 23 #[.int .i64 y2, .int .i64 m2, .int .i64 30]).frozen 2
    have bB : Held (Below w.heap.size w (w4.alloc (.cells #[.int .i64 y2, .int .i64 m2, .int .i64 30] 23))) := ⟨(HB4.out.alloc hs4 (.cells #[.int .i64 y2, .int .i64 m2, .int .i64 30] 23))⟩
    have c0 : ((w4.alloc (.cells #[.int .i64 y2, .int .i64 m2, .int .i64 31] 23)).setCell ⟨g, 2, none⟩ (.int .i64 30)).cell? ⟨g, 0, none⟩ = some (.int .i64 y1) := ((HN4.out.alloc (.cells #[.int .i64 y2, .int .i64 m2, .int .i64 31] 23)).set_ 2 (.int .i64 30)).cell 0
    have c1 : ((w4.alloc (.cells #[.int .i64 y2, .int .i64 m2, .int .i64 31] 23)).setCell ⟨g, 2, none⟩ (.int .i64 30)).cell? ⟨g, 1, none⟩ = some (.int .i64 m1) := ((HN4.out.alloc (.cells #[.int .i64 y2, .int .i64 m2, .int .i64 31] 23)).set_ 2 (.int .i64 30)).cell 1
    have c2 : ((w4.alloc (.cells #[.int .i64 y2, .int .i64 m2, .int .i64 31] 23)).setCell ⟨g, 2, none⟩ (.int .i64 30)).cell? ⟨g, 2, none⟩ = some (.int .i64 30) := ((HN4.out.alloc (.cells #[.int .i64 y2, .int .i64 m2, .int .i64 31] 23)).set_ 2 (.int .i64 30)).cell 2
    have cn0 : ((w4.alloc (.cells #[.int .i64 y2, .int .i64 m2, .int .i64 31] 23)).setCell ⟨g, 2, none⟩ (.int .i64 30)).cell? ⟨w4.heap.size, 0, none⟩ = some (.int .i64 y2) := ((Blk.new w4 23 #[.int .i64 y2, .int .i64 m2, .int .i64 31]).far hne2 (.int .i64 30)).cell 0
    have cn1 : ((w4.alloc (.cells #[.int .i64 y2, .int .i64 m2, .int .i64 31] 23)).setCell ⟨g, 2, none⟩ (.int .i64 30)).cell? ⟨w4.heap.size, 1, none⟩ = some (.int .i64 m2) := ((Blk.new w4 23 #[.int .i64 y2, .int .i64 m2, .int .i64 31]).far hne2 (.int .i64 30)).cell 1
    have cn2 : ((w4.alloc (.cells #[.int .i64 y2, .int .i64 m2, .int .i64 31] 23)).setCell ⟨g, 2, none⟩ (.int .i64 30)).cell? ⟨w4.heap.size, 2, none⟩ = some (.int .i64 31) := ((Blk.new w4 23 #[.int .i64 y2, .int .i64 m2, .int .i64 31]).far hne2 (.int .i64 30)).cell 2
    have cf : ((w4.alloc (.cells #[.int .i64 y2, .int .i64 m2, .int .i64 31] 23)).setCell ⟨g, 2, none⟩ (.int .i64 30)).frozen? ⟨g, 2, none⟩ = false := ((HN4.out.alloc (.cells #[.int .i64 y2, .int .i64 m2, .int .i64 31] 23)).set_ 2 (.int .i64 30)).frozen 2
    have cg : ((w4.alloc (.cells #[.int .i64 y2, .int .i64 m2, .int .i64 31] 23)).setCell ⟨g, 2, none⟩ (.int .i64 30)).frozen? ⟨w4.heap.size, 2, none⟩ = false := ((Blk.new w4 23 #[.int .i64 y2, .int .i64 m2, .int .i64 31]).far hne2 (.int .i64 30)).frozen 2
    have cB : Held (Below w.heap.size w ((w4.alloc (.cells #[.int .i64 y2, .int .i64 m2, .int .i64 31] 23)).setCell ⟨g, 2, none⟩ (.int .i64 30))) := ⟨((HB4.out.alloc hs4 (.cells #[.int .i64 y2, .int .i64 m2, .int .i64 31] 23)).setCell hs2 (.int .i64 30))⟩
    have d0 : (((w4.alloc (.cells #[.int .i64 y2, .int .i64 m2, .int .i64 31] 23)).setCell ⟨g, 2, none⟩ (.int .i64 30)).setCell ⟨w4.heap.size, 2, none⟩ (.int .i64 30)).cell? ⟨g, 0, none⟩ = some (.int .i64 y1) := (((HN4.out.alloc (.cells #[.int .i64 y2, .int .i64 m2, .int .i64 31] 23)).set_ 2 (.int .i64 30)).far hne (.int .i64 30)).cell 0
    have d1 : (((w4.alloc (.cells #[.int .i64 y2, .int .i64 m2, .int .i64 31] 23)).setCell ⟨g, 2, none⟩ (.int .i64 30)).setCell ⟨w4.heap.size, 2, none⟩ (.int .i64 30)).cell? ⟨g, 1, none⟩ = some (.int .i64 m1) := (((HN4.out.alloc (.cells #[.int .i64 y2, .int .i64 m2, .int .i64 31] 23)).set_ 2 (.int .i64 30)).far hne (.int .i64 30)).cell 1
    have d2 : (((w4.alloc (.cells #[.int .i64 y2, .int .i64 m2, .int .i64 31] 23)).setCell ⟨g, 2, none⟩ (.int .i64 30)).setCell ⟨w4.heap.size, 2, none⟩ (.int .i64 30)).cell? ⟨g, 2, none⟩ = some (.int .i64 30) := (((HN4.out.alloc (.cells #[.int .i64 y2, .int .i64 m2, .int .i64 31] 23)).set_ 2 (.int .i64 30)).far hne (.int .i64 30)).cell 2
    have dn0 : (((w4.alloc (.cells #[.int .i64 y2, .int .i64 m2, .int .i64 31] 23)).setCell ⟨g, 2, none⟩ (.int .i64 30)).setCell ⟨w4.heap.size, 2, none⟩ (.int .i64 30)).cell? ⟨w4.heap.size, 0, none⟩ = some (.int .i64 y2) := (((Blk.new w4 23 #[.int .i64 y2, .int .i64 m2, .int .i64 31]).far hne2 (.int .i64 30)).set_ 2 (.int .i64 30)).cell 0
    have dn1 : (((w4.alloc (.cells #[.int .i64 y2, .int .i64 m2, .int .i64 31] 23)).setCell ⟨g, 2, none⟩ (.int .i64 30)).setCell ⟨w4.heap.size, 2, none⟩ (.int .i64 30)).cell? ⟨w4.heap.size, 1, none⟩ = some (.int .i64 m2) := (((Blk.new w4 23 #[.int .i64 y2, .int .i64 m2, .int .i64 31]).far hne2 (.int .i64 30)).set_ 2 (.int .i64 30)).cell 1
    have dn2 : (((w4.alloc (.cells #[.int .i64 y2, .int .i64 m2, .int .i64 31] 23)).setCell ⟨g, 2, none⟩ (.int .i64 30)).setCell ⟨w4.heap.size, 2, none⟩ (.int .i64 30)).cell? ⟨w4.heap.size, 2, none⟩ = some (.int .i64 30) := (((Blk.new w4 23 #[.int .i64 y2, .int .i64 m2, .int .i64 31]).far hne2 (.int .i64 30)).set_ 2 (.int .i64 30)).cell 2
    have df : (((w4.alloc (.cells #[.int .i64 y2, .int .i64 m2, .int .i64 31] 23)).setCell ⟨g, 2, none⟩ (.int .i64 30)).setCell ⟨w4.heap.size, 2, none⟩ (.int .i64 30)).frozen? ⟨g, 2, none⟩ = false := (((HN4.out.alloc (.cells #[.int .i64 y2, .int .i64 m2, .int .i64 31] 23)).set_ 2 (.int .i64 30)).far hne (.int .i64 30)).frozen 2
    have dg : (((w4.alloc (.cells #[.int .i64 y2, .int .i64 m2, .int .i64 31] 23)).setCell ⟨g, 2, none⟩ (.int .i64 30)).setCell ⟨w4.heap.size, 2, none⟩ (.int .i64 30)).frozen? ⟨w4.heap.size, 2, none⟩ = false := (((Blk.new w4 23 #[.int .i64 y2, .int .i64 m2, .int .i64 31]).far hne2 (.int .i64 30)).set_ 2 (.int .i64 30)).frozen 2
    have dB : Held (Below w.heap.size w (((w4.alloc (.cells #[.int .i64 y2, .int .i64 m2, .int .i64 31] 23)).setCell ⟨g, 2, none⟩ (.int .i64 30)).setCell ⟨w4.heap.size, 2, none⟩ (.int .i64 30))) := ⟨(((HB4.out.alloc hs4 (.cells #[.int .i64 y2, .int .i64 m2, .int .i64 31] 23)).setCell hs2 (.int .i64 30)).setCell hs4 (.int .i64 30))⟩
    go_wp2
    go_ret3
    refine ⟨by rw [Hf.out]; first | rfl | (simp; done) | (congr 4; first | omega | (simp; omega)), ?_⟩
    first | exact aB.out | exact bB.out | exact cB.out | exact dB.out | exact (HB4.out.setCell hs2 _).alloc (HB4.out.setCell hs2 _).size _
  · go_enter Tryd.func21, Tryd.ntmps21
    go_wp2_with fail
    refine (rOf_in a w ha1 ha2).mono ?_
    rintro e w2 ⟨y1', m1', d1', rfl, hR1q, hN1q, hb⟩
    have HB2 := Held.mk hb
    have hs2 := hb.size
    clear hb
    obtain ⟨e1, e2, e3⟩ := hR1q.inj HR1.out (by rw [hN1q, HE1.out])
    rw [e1, e2, e3]
    clear hR1q hN1q e1 e2 e3
    unfold Dt
    have HN2 := Held.mk (Blk.new w2 23 #[.int .i64 y1, .int .i64 m1, .int .i64 d1])
    have HB3 : Held (Below w.heap.size w (w2.alloc (.cells #[.int .i64 y1, .int .i64 m1, .int .i64 d1] 23))) := ⟨HB2.out.alloc hs2 _⟩
    go_wp2_with fail
    generalize w2.alloc (.cells #[.int .i64 y1, .int .i64 m1, .int .i64 d1] 23) = w3 at *
    generalize w2.heap.size = g at *
    refine (rOf_in b w3 hb1 hb2).mono ?_
    rintro e w4 ⟨y2', m2', d2', rfl, hR2q, hN2q, hb⟩
    have HN4 := Held.mk (HN2.out.keep (Keep.of_below hb (fun _ => False)) (fun h => h))
    have HB4 : Held (Below w.heap.size w w4) := ⟨HB3.out.trans (hb.mono HB3.out.size)⟩
    have hs4 := HB4.out.size
    clear hb HB3 HB2
    obtain ⟨e1, e2, e3⟩ := hR2q.inj HR2.out (by rw [hN2q, HE2.out])
    rw [e1, e2, e3]
    clear hR2q hN2q e1 e2 e3
    unfold Dt
    have hlt4 := HN4.out.lt
    have hne : g ≠ w4.heap.size := Nat.ne_of_lt hlt4
    have hne2 : w4.heap.size ≠ g := hne.symm
    have z0 : w4.cell? ⟨g, 0, none⟩ = some (.int .i64 y1) := HN4.out.cell 0
    have z1 : w4.cell? ⟨g, 1, none⟩ = some (.int .i64 m1) := HN4.out.cell 1
    have z2 : w4.cell? ⟨g, 2, none⟩ = some (.int .i64 d1) := HN4.out.cell 2
    have zf : w4.frozen? ⟨g, 2, none⟩ = false := HN4.out.frozen 2
    have a0 : (w4.alloc (.cells #[.int .i64 y2, .int .i64 m2, .int .i64 d2] 23)).cell? ⟨g, 0, none⟩ = some (.int .i64 y1) := (HN4.out.alloc (.cells #[.int .i64 y2, .int .i64 m2, .int .i64 d2] 23)).cell 0
    have a1 : (w4.alloc (.cells #[.int .i64 y2, .int .i64 m2, .int .i64 d2] 23)).cell? ⟨g, 1, none⟩ = some (.int .i64 m1) := (HN4.out.alloc (.cells #[.int .i64 y2, .int .i64 m2, .int .i64 d2] 23)).cell 1
    have a2 : (w4.alloc (.cells #[.int .i64 y2, .int .i64 m2, .int .i64 d2] 23)).cell? ⟨g, 2, none⟩ = some (.int .i64 d1) := (HN4.out.alloc (.cells #[.int .i64 y2, .int .i64 m2, .int .i64 d2] 23)).cell 2
    have an0 : (w4.alloc (.cells #[.int .i64 y2, .int .i64 m2, .int .i64 d2] 23)).cell? ⟨w4.heap.size, 0, none⟩ = some (.int .i64 y2) := (Blk.new w4 23 #[.int .i64 y2, .int .i64 m2, .int .i64 d2]).cell 0
    have an1 : (w4.alloc (.cells #[.int .i64 y2, .int .i64 m2, .int .i64 d2] 23)).cell? ⟨w4.heap.size, 1, none⟩ = some (.int .i64 m2) := (Blk.new w4 23 #[.int .i64 y2, .int .i64 m2, .int .i64 d2]).cell 1
    have an2 : (w4.alloc (.cells #[.int .i64 y2, .int .i64 m2, .int .i64 d2] 23)).cell? ⟨w4.heap.size, 2, none⟩ = some (.int .i64 d2) := (Blk.new w4 23 #[.int .i64 y2, .int .i64 m2, .int .i64 d2]).cell 2
    have af : (w4.alloc (.cells #[.int .i64 y2, .int .i64 m2, .int .i64 d2] 23)).frozen? ⟨g, 2, none⟩ = false := (HN4.out.alloc (.cells #[.int .i64 y2, .int .i64 m2, .int .i64 d2] 23)).frozen 2
    have ag : (w4.alloc (.cells #[.int .i64 y2, .int .i64 m2, .int .i64 d2] 23)).frozen? ⟨w4.heap.size, 2, none⟩ = false := (Blk.new w4 23 #[.int .i64 y2, .int .i64 m2, .int .i64 d2]).frozen 2
    have aB : Held (Below w.heap.size w (w4.alloc (.cells #[.int .i64 y2, .int .i64 m2, .int .i64 d2] 23))) := ⟨(HB4.out.alloc hs4 (.cells #[.int .i64 y2, .int .i64 m2, .int .i64 d2] 23))⟩
    go_wp2
    go_ret3
    refine ⟨by rw [Hf.out]; first | rfl | (simp; done) | (congr 4; first | omega | (simp; omega)), ?_⟩
    first | exact aB.out | exact (HB4.out.setCell hs2 _).alloc (HB4.out.setCell hs2 _).size _
  · go_enter Tryd.func21, Tryd.ntmps21
    go_wp2_with fail
    refine (rOf_in a w ha1 ha2).mono ?_
    rintro e w2 ⟨y1', m1', d1', rfl, hR1q, hN1q, hb⟩
    have HB2 := Held.mk hb
    have hs2 := hb.size
    clear hb
    obtain ⟨e1, e2, e3⟩ := hR1q.inj HR1.out (by rw [hN1q, HE1.out])
    rw [e1, e2, e3]
    clear hR1q hN1q e1 e2 e3
    unfold Dt
    have HN2 := Held.mk (Blk.new w2 23 #[.int .i64 y1, .int .i64 m1, .int .i64 d1])
    have HB3 : Held (Below w.heap.size w (w2.alloc (.cells #[.int .i64 y1, .int .i64 m1, .int .i64 d1] 23))) := ⟨HB2.out.alloc hs2 _⟩
    go_wp2_with fail
    generalize w2.alloc (.cells #[.int .i64 y1, .int .i64 m1, .int .i64 d1] 23) = w3 at *
    generalize w2.heap.size = g at *
    refine (rOf_in b w3 hb1 hb2).mono ?_
    rintro e w4 ⟨y2', m2', d2', rfl, hR2q, hN2q, hb⟩
    have HN4 := Held.mk (HN2.out.keep (Keep.of_below hb (fun _ => False)) (fun h => h))
    have HB4 : Held (Below w.heap.size w w4) := ⟨HB3.out.trans (hb.mono HB3.out.size)⟩
    have hs4 := HB4.out.size
    clear hb HB3 HB2
    obtain ⟨e1, e2, e3⟩ := hR2q.inj HR2.out (by rw [hN2q, HE2.out])
    rw [e1, e2, e3]
    clear hR2q hN2q e1 e2 e3
    unfold Dt
    have hlt4 := HN4.out.lt
    have hne : g ≠ w4.heap.size := Nat.ne_of_lt hlt4
    have hne2 : w4.heap.size ≠ g := hne.symm
    have z0 : w4.cell? ⟨g, 0, none⟩ = some (.int .i64 y1) := HN4.out.cell 0
    have z1 : w4.cell? ⟨g, 1, none⟩ = some (.int .i64 m1) := HN4.out.cell 1
    have z2 : w4.cell? ⟨g, 2, none⟩ = some (.int .i64 d1) := HN4.out.cell 2
    have zf : w4.frozen? ⟨g, 2, none⟩ = false := HN4.out.frozen 2
    have a0 : (w4.alloc (.cells #[.int .i64 y2, .int .i64 m2, .int .i64 31] 23)).cell? ⟨g, 0, none⟩ = some (.int .i64 y1) := (HN4.out.alloc (.cells #[.int .i64 y2, .int .i64 m2, .int .i64 31] 23)).cell 0
    have a1 : (w4.alloc (.cells #[.int .i64 y2, .int .i64 m2, .int .i64 31] 23)).cell? ⟨g, 1, none⟩ = some (.int .i64 m1) := (HN4.out.alloc (.cells #[.int .i64 y2, .int .i64 m2, .int .i64 31] 23)).cell 1
    have a2 : (w4.alloc (.cells #[.int .i64 y2, .int .i64 m2, .int .i64 31] 23)).cell? ⟨g, 2, none⟩ = some (.int .i64 d1) := (HN4.out.alloc (.cells #[.int .i64 y2, .int .i64 m2, .int .i64 31] 23)).cell 2
    have an0 : (w4.alloc (.cells #[.int .i64 y2, .int .i64 m2, .int .i64 31] 23)).cell? ⟨w4.heap.size, 0, none⟩ = some (.int .i64 y2) := (Blk.new w4 23 #[.int .i64 y2, .int .i64 m2, .int .i64 31]).cell 0
    have an1 : (w4.alloc (.cells #[.int .i64 y2, .int .i64 m2, .int .i64 31] 23)).cell? ⟨w4.heap.size, 1, none⟩ = some (.int .i64 m2) := (Blk.new w4 23 #[.int .i64 y2, .int .i64 m2, .int .i64 31]).cell 1
    have an2 : (w4.alloc (.cells #[.int .i64 y2, .int .i64 m2, .int .i64 31] 23)).cell? ⟨w4.heap.size, 2, none⟩ = some (.int .i64 31) := (Blk.new w4 23 #[.int .i64 y2, .int .i64 m2, .int .i64 31]).cell 2
    have af : (w4.alloc (.cells #[.int .i64 y2, .int .i64 m2, .int .i64 31] 23)).frozen? ⟨g, 2, none⟩ = false := (HN4.out.alloc (.cells #[.int .i64 y2, .int .i64 m2, .int .i64 31] 23)).frozen 2
    have ag : (w4.alloc (.cells #[.int .i64 y2, .int .i64 m2, .int .i64 31] 23)).frozen? ⟨w4.heap.size, 2, none⟩ = false := (Blk.new w4 23 #[.int .i64 y2, .int .i64 m2, .int .i64 31]).frozen 2
    have aB : Held (Below w.heap.size w (w4.alloc (.cells #[.int .i64 y2, .int .i64 m2, .int .i64 31] 23))) := ⟨(HB4.out.alloc hs4 (.cells #[.int .i64 y2, .int .i64 m2, .int .i64 31] 23))⟩
    have b0 : (w4.alloc (.cells #[.int .i64 y2, .int .i64 m2, .int .i64 30] 23)).cell? ⟨g, 0, none⟩ = some (.int .i64 y1) := (HN4.out.alloc (.cells #[.int .i64 y2, .int .i64 m2, .int .i64 30] 23)).cell 0
    have b1 : (w4.alloc (.cells #[.int .i64 y2, .int .i64 m2, .int .i64 30] 23)).cell? ⟨g, 1, none⟩ = some (.int .i64 m1) := (HN4.out.alloc (.cells #[.int .i64 y2, .int .i64 m2, .int .i64 30] 23)).cell 1
    have b2 : (w4.alloc (.cells #[.int .i64 y2, .int .i64 m2, .int .i64 30] 23)).cell? ⟨g, 2, none⟩ = some (.int .i64 d1) := (HN4.out.alloc (.cells #[.int .i64 y2, .int .i64 m2, .int .i64 30] 23)).cell 2
    have bn0 : (w4.alloc (.cells #[.int .i64 y2, .int .i64 m2, .int .i64 30] 23)).cell? ⟨w4.heap.size, 0, none⟩ = some (.int .i64 y2) := (Blk.new w4 23 #[.int .i64 y2, .int .i64 m2, .int .i64 30]).cell 0
    have bn1 : (w4.alloc (.cells #[.int .i64 y2, .int .i64 m2, .int .i64 30] 23)).cell? ⟨w4.heap.size, 1, none⟩ = some (.int .i64 m2) := (Blk.new w4 23 #[.int .i64 y2, .int .i64 m2, .int .i64 30]).cell 1
    have bn2 : (w4.alloc (.cells #[.int .i64 y2, .int .i64 m2, .int .i64 30] 23)).cell? ⟨w4.heap.size, 2, none⟩ = some (.int .i64 30) := (Blk.new w4 23 #[.int .i64 y2, .int .i64 m2, .int .i64 30]).cell 2
    have bf : (w4.alloc (.cells #[.int .i64 y2, .int .i64 m2, .int .i64 30] 23)).frozen? ⟨g, 2, none⟩ = false := (HN4.out.alloc (.cells #[.int .i64 y2, .int .i64 m2, .int .i64 30] 23)).frozen 2
    have bg : (w4.alloc (.cells #[.int .i64 y2, .int .i64 m2, .int .i64 30] 23)).frozen? ⟨w4.heap.size, 2, none⟩ = false := (Blk.new w4 23 #[.int .i64 y2, .int .i64 m2, .int .i64 30]).frozen 2
    have bB : Held (Below w.heap.size w (w4.alloc (.cells #[.int .i64 y2, .int .i64 m2, .int .i64 30] 23))) := ⟨(HB4.out.alloc hs4 (.cells #[.int .i64 y2, .int .i64 m2, .int .i64 30] 23))⟩
    go_wp2
    go_ret3
    refine ⟨by rw [Hf.out]; first | rfl | (simp; done) | (congr 4; first | omega | (simp; omega)), ?_⟩
    first | exact aB.out | exact bB.out | exact (HB4.out.setCell hs2 _).alloc (HB4.out.setCell hs2 _).size _
  · go_enter Tryd.func21, Tryd.ntmps21
    go_wp2_with fail
    refine (rOf_in a w ha1 ha2).mono ?_
    rintro e w2 ⟨y1', m1', d1', rfl, hR1q, hN1q, hb⟩
    have HB2 := Held.mk hb
    have hs2 := hb.size
    clear hb
    obtain ⟨e1, e2, e3⟩ := hR1q.inj HR1.out (by rw [hN1q, HE1.out])
    rw [e1, e2, e3]
    clear hR1q hN1q e1 e2 e3
    unfold Dt
    have HN2 := Held.mk (Blk.new w2 23 #[.int .i64 y1, .int .i64 m1, .int .i64 30])
    have HB3 : Held (Below w.heap.size w (w2.alloc (.cells #[.int .i64 y1, .int .i64 m1, .int .i64 30] 23))) := ⟨HB2.out.alloc hs2 _⟩
    go_wp2_with fail
    generalize w2.alloc (.cells #[.int .i64 y1, .int .i64 m1, .int .i64 30] 23) = w3 at *
    generalize w2.heap.size = g at *
    refine (rOf_in b w3 hb1 hb2).mono ?_
    rintro e w4 ⟨y2', m2', d2', rfl, hR2q, hN2q, hb⟩
    have HN4 := Held.mk (HN2.out.keep (Keep.of_below hb (fun _ => False)) (fun h => h))
    have HB4 : Held (Below w.heap.size w w4) := ⟨HB3.out.trans (hb.mono HB3.out.size)⟩
    have hs4 := HB4.out.size
    clear hb HB3 HB2
    obtain ⟨e1, e2, e3⟩ := hR2q.inj HR2.out (by rw [hN2q, HE2.out])
    rw [e1, e2, e3]
    clear hR2q hN2q e1 e2 e3
    unfold Dt
    have hlt4 := HN4.out.lt
    have hne : g ≠ w4.heap.size := Nat.ne_of_lt hlt4
    have hne2 : w4.heap.size ≠ g := hne.symm
    have z0 : w4.cell? ⟨g, 0, none⟩ = some (.int .i64 y1) := HN4.out.cell 0
    have z1 : w4.cell? ⟨g, 1, none⟩ = some (.int .i64 m1) := HN4.out.cell 1
    have z2 : w4.cell? ⟨g, 2, none⟩ = some (.int .i64 30) := HN4.out.cell 2
    have zf : w4.frozen? ⟨g, 2, none⟩ = false := HN4.out.frozen 2
    have a0 : (w4.alloc (.cells #[.int .i64 y2, .int .i64 m2, .int .i64 d2] 23)).cell? ⟨g, 0, none⟩ = some (.int .i64 y1) := (HN4.out.alloc (.cells #[.int .i64 y2, .int .i64 m2, .int .i64 d2] 23)).cell 0
    have a1 : (w4.alloc (.cells #[.int .i64 y2, .int .i64 m2, .int .i64 d2] 23)).cell? ⟨g, 1, none⟩ = some (.int .i64 m1) := (HN4.out.alloc (.cells #[.int .i64 y2, .int .i64 m2, .int .i64 d2] 23)).cell 1
    have a2 : (w4.alloc (.cells #[.int .i64 y2, .int .i64 m2, .int .i64 d2] 23)).cell? ⟨g, 2, none⟩ = some (.int .i64 30) := (HN4.out.alloc (.cells #[.int .i64 y2, .int .i64 m2, .int .i64 d2] 23)).cell 2
    have an0 : (w4.alloc (.cells #[.int .i64 y2, .int .i64 m2, .int .i64 d2] 23)).cell? ⟨w4.heap.size, 0, none⟩ = some (.int .i64 y2) := (Blk.new w4 23 #[.int .i64 y2, .int .i64 m2, .int .i64 d2]).cell 0
    have an1 : (w4.alloc (.cells #[.int .i64 y2, .int .i64 m2, .int .i64 d2] 23)).cell? ⟨w4.heap.size, 1, none⟩ = some (.int .i64 m2) := (Blk.new w4 23 #[.int .i64 y2, .int .i64 m2, .int .i64 d2]).cell 1
    have an2 : (w4.alloc (.cells #[.int .i64 y2, .int .i64 m2, .int .i64 d2] 23)).cell? ⟨w4.heap.size, 2, none⟩ = some (.int .i64 d2) := (Blk.new w4 23 #[.int .i64 y2, .int .i64 m2, .int .i64 d2]).cell 2
    have af : (w4.alloc (.cells #[.int .i64 y2, .int .i64 m2, .int .i64 d2] 23)).frozen? ⟨g, 2, none⟩ = false := (HN4.out.alloc (.cells #[.int .i64 y2, .int .i64 m2, .int .i64 d2] 23)).frozen 2
    have ag : (w4.alloc (.cells #[.int .i64 y2, .int .i64 m2, .int .i64 d2] 23)).frozen? ⟨w4.heap.size, 2, none⟩ = false := (Blk.new w4 23 #[.int .i64 y2, .int .i64 m2, .int .i64 d2]).frozen 2
    have aB : Held (Below w.heap.size w (w4.alloc (.cells #[.int .i64 y2, .int .i64 m2, .int .i64 d2] 23))) := ⟨(HB4.out.alloc hs4 (.cells #[.int .i64 y2, .int .i64 m2, .int .i64 d2] 23))⟩
    go_wp2
    go_ret3
    refine ⟨by rw [Hf.out]; first | rfl | (simp; done) | (congr 4; first | omega | (simp; omega)), ?_⟩
    first | exact aB.out | exact (HB4.out.setCell hs2 _).alloc (HB4.out.setCell hs2 _).size _
  · go_enter Tryd.func21, Tryd.ntmps21
    go_wp2_with fail
    refine (rOf_in a w ha1 ha2).mono ?_
    rintro e w2 ⟨y1', m1', d1', rfl, hR1q, hN1q, hb⟩
    have HB2 := Held.mk hb
    have hs2 := hb.size
    clear hb
    obtain ⟨e1, e2, e3⟩ := hR1q.inj HR1.out (by rw [hN1q, HE1.out])
    rw [e1, e2, e3]
    clear hR1q hN1q e1 e2 e3
    unfold Dt
    have HN2 := Held.mk (Blk.new w2 23 #[.int .i64 y1, .int .i64 m1, .int .i64 30])
    have HB3 : Held (Below w.heap.size w (w2.alloc (.cells #[.int .i64 y1, .int .i64 m1, .int .i64 30] 23))) := ⟨HB2.out.alloc hs2 _⟩
    go_wp2_with fail
    generalize w2.alloc (.cells #[.int .i64 y1, .int .i64 m1, .int .i64 30] 23) = w3 at *
    generalize w2.heap.size = g at *
    refine (rOf_in b w3 hb1 hb2).mono ?_
    rintro e w4 ⟨y2', m2', d2', rfl, hR2q, hN2q, hb⟩
    have HN4 := Held.mk (HN2.out.keep (Keep.of_below hb (fun _ => False)) (fun h => h))
    have HB4 : Held (Below w.heap.size w w4) := ⟨HB3.out.trans (hb.mono HB3.out.size)⟩
    have hs4 := HB4.out.size
    clear hb HB3 HB2
    obtain ⟨e1, e2, e3⟩ := hR2q.inj HR2.out (by rw [hN2q, HE2.out])
    rw [e1, e2, e3]
    clear hR2q hN2q e1 e2 e3
    unfold Dt
    have hlt4 := HN4.out.lt
    have hne : g ≠ w4.heap.size := Nat.ne_of_lt hlt4
    have hne2 : w4.heap.size ≠ g := hne.symm
    have z0 : w4.cell? ⟨g, 0, none⟩ = some (.int .i64 y1) := HN4.out.cell 0
    have z1 : w4.cell? ⟨g, 1, none⟩ = some (.int .i64 m1) := HN4.out.cell 1
    have z2 : w4.cell? ⟨g, 2, none⟩ = some (.int .i64 30) := HN4.out.cell 2
    have zf : w4.frozen? ⟨g, 2, none⟩ = false := HN4.out.frozen 2
    have a0 : (w4.alloc (.cells #[.int .i64 y2, .int .i64 m2, .int .i64 31] 23)).cell? ⟨g, 0, none⟩ = some (.int .i64 y1) := (HN4.out.alloc (.cells #[.int .i64 y2, .int .i64 m2, .int .i64 31] 23)).cell 0
    have a1 : (w4.alloc (.cells #[.int .i64 y2, .int .i64 m2, .int .i64 31] 23)).cell? ⟨g, 1, none⟩ = some (.int .i64 m1) := (HN4.out.alloc (.cells #[.int .i64 y2, .int .i64 m2, .int .i64 31] 23)).cell 1
    have a2 : (w4.alloc (.cells #[.int .i64 y2, .int .i64 m2, .int .i64 31] 23)).cell? ⟨g, 2, none⟩ = some (.int .i64 30) := (HN4.out.alloc (.cells #[.int .i64 y2, .int .i64 m2, .int .i64 31] 23)).cell 2
    have an0 : (w4.alloc (.cells #[.int .i64 y2, .int .i64 m2, .int .i64 31] 23)).cell? ⟨w4.heap.size, 0, none⟩ = some (.int .i64 y2) := (Blk.new w4 23 #[.int .i64 y2, .int .i64 m2, .int .i64 31]).cell 0
    have an1 : (w4.alloc (.cells #[.int .i64 y2, .int .i64 m2, .int .i64 31] 23)).cell? ⟨w4.heap.size, 1, none⟩ = some (.int .i64 m2) := (Blk.new w4 23 #[.int .i64 y2, .int .i64 m2, .int .i64 31]).cell 1
    have an2 : (w4.alloc (.cells #[.int .i64 y2, .int .i64 m2, .int .i64 31] 23)).cell? ⟨w4.heap.size, 2, none⟩ = some (.int .i64 31) := (Blk.new w4 23 #[.int .i64 y2, .int .i64 m2, .int .i64 31]).cell 2
    have af : (w4.alloc (.cells #[.int .i64 y2, .int .i64 m2, .int .i64 31] 23)).frozen? ⟨g, 2, none⟩ = false := (HN4.out.alloc (.cells #[.int .i64 y2, .int .i64 m2, .int .i64 31] 23)).frozen 2
    have ag : (w4.alloc (.cells #[.int .i64 y2, .int .i64 m2, .int .i64 31] 23)).frozen? ⟨w4.heap.size, 2, none⟩ = false := (Blk.new w4 23 #[.int .i64 y2, .int .i64 m2, .int .i64 31]).frozen 2
    have aB : Held (Below w.heap.size w (w4.alloc (.cells #[.int .i64 y2, .int .i64 m2, .int .i64 31] 23))) := ⟨(HB4.out.alloc hs4 (.cells #[.int .i64 y2, .int .i64 m2, .int .i64 31] 23))⟩
    have b0 : (w4.alloc (.cells #[.int .i64 y2, .int .i64 m2, .int .i64 30] 23)).cell? ⟨g, 0, none⟩ = some (.int .i64 y1) := (HN4.out.alloc (.cells #[.int .i64 y2, .int .i64 m2, .int .i64 30] 23)).cell 0
    have b1 : (w4.alloc (.cells #[.int .i64 y2, .int .i64 m2, .int .i64 30] 23)).cell? ⟨g, 1, none⟩ = some (.int .i64 m1) := (HN4.out.alloc (.cells #[.int .i64 y2, .int .i64 m2, .int .i64 30] 23)).cell 1
    have b2 : (w4.alloc (.cells #[.int .i64 y2, .int .i64 m2, .int .i64 30] 23)).cell? ⟨g, 2, none⟩ = some (.int .i64 30) := (HN4.out.alloc (.cells #[.int .i64 y2, .int .i64 m2, .int .i64 30] 23)).cell 2
    have bn0 : (w4.alloc (.cells #[.int .i64 y2, .int .i64 m2, .int .i64 30] 23)).cell? ⟨w4.heap.size, 0, none⟩ = some (.int .i64 y2) := (Blk.new w4 23 #[.int .i64 y2, .int .i64 m2, .int .i64 30]).cell 0
    have bn1 : (w4.alloc (.cells #[.int .i64 y2, .int .i64 m2, .int .i64 30] 23)).cell? ⟨w4.heap.size, 1, none⟩ = some (.int .i64 m2) := (Blk.new w4 23 #[.int .i64 y2, .int .i64 m2, .int .i64 30]).cell 1
    have bn2 : (w4.alloc (.cells #[.int .i64 y2, .int .i64 m2, .int .i64 30] 23)).cell? ⟨w4.heap.size, 2, none⟩ = some (.int .i64 30) := (Blk.new w4 23 #[.int .i64 y2, .int .i64 m2, .int .i64 30]).cell 2
    have bf : (w4.alloc (.cells #[.int .i64 y2, .int .i64 m2, .int .i64 30] 23)).frozen? ⟨g, 2, none⟩ = false := (HN4.out.alloc (.cells #[.int .i64 y2, .int .i64 m2, .int .i64 30] 23)).frozen 2
    have bg : (w4.alloc (.cells #[.int .i64 y2, .int .i64 m2, .int .i64 30] 23)).frozen? ⟨w4.heap.size, 2, none⟩ = false := (Blk.new w4 23 #[.int .i64 y2, .int .i64 m2, .int .i64 30]).frozen 2
    have bB : Held (Below w.heap.size w (w4.alloc (.cells #[.int .i64 y2, .int .i64 m2, .int .i64 30] 23))) := ⟨(HB4.out.alloc hs4 (.cells #[.int .i64 y2, .int .i64 m2, .int .i64 30] 23))⟩
    go_wp2
    go_ret3
    refine ⟨by rw [Hf.out]; first | rfl | (simp; done) | (congr 4; first | omega | (simp; omega)), ?_⟩
    first | exact aB.out | exact bB.out | exact (HB4.out.setCell hs2 _).alloc (HB4.out.setCell hs2 _).size _
  · go_enter Tryd.func21, Tryd.ntmps21
    go_wp2_with fail
    refine (rOf_in a w ha1 ha2).mono ?_
    rintro e w2 ⟨y1', m1', d1', rfl, hR1q, hN1q, hb⟩
    have HB2 := Held.mk hb
    have hs2 := hb.size
    clear hb
    obtain ⟨e1, e2, e3⟩ := hR1q.inj HR1.out (by rw [hN1q, HE1.out])
    rw [e1, e2, e3]
    clear hR1q hN1q e1 e2 e3
    unfold Dt
    have HN2 := Held.mk (Blk.new w2 23 #[.int .i64 y1, .int .i64 m1, .int .i64 31])
    have HB3 : Held (Below w.heap.size w (w2.alloc (.cells #[.int .i64 y1, .int .i64 m1, .int .i64 31] 23))) := ⟨HB2.out.alloc hs2 _⟩
    go_wp2_with fail
    generalize w2.alloc (.cells #[.int .i64 y1, .int .i64 m1, .int .i64 31] 23) = w3 at *
    generalize w2.heap.size = g at *
    refine (rOf_in b w3 hb1 hb2).mono ?_
    rintro e w4 ⟨y2', m2', d2', rfl, hR2q, hN2q, hb⟩
    have HN4 := Held.mk (HN2.out.keep (Keep.of_below hb (fun _ => False)) (fun h => h))
    have HB4 : Held (Below w.heap.size w w4) := ⟨HB3.out.trans (hb.mono HB3.out.size)⟩
    have hs4 := HB4.out.size
    clear hb HB3 HB2
    obtain ⟨e1, e2, e3⟩ := hR2q.inj HR2.out (by rw [hN2q, HE2.out])
    rw [e1, e2, e3]
    clear hR2q hN2q e1 e2 e3
    unfold Dt
    have hlt4 := HN4.out.lt
    have hne : g ≠ w4.heap.size := Nat.ne_of_lt hlt4
    have hne2 : w4.heap.size ≠ g := hne.symm
    have z0 : w4.cell? ⟨g, 0, none⟩ = some (.int .i64 y1) := HN4.out.cell 0
    have z1 : w4.cell? ⟨g, 1, none⟩ = some (.int .i64 m1) := HN4.out.cell 1
    have z2 : w4.cell? ⟨g, 2, none⟩ = some (.int .i64 31) := HN4.out.cell 2
    have zf : w4.frozen? ⟨g, 2, none⟩ = false := HN4.out.frozen 2
    have a0 : (w4.alloc (.cells #[.int .i64 y2, .int .i64 m2, .int .i64 d2] 23)).cell? ⟨g, 0, none⟩ = some (.int .i64 y1) := (HN4.out.alloc (.cells #[.int .i64 y2, .int .i64 m2, .int .i64 d2] 23)).cell 0
    have a1 : (w4.alloc (.cells #[.int .i64 y2, .int .i64 m2, .int .i64 d2] 23)).cell? ⟨g, 1, none⟩ = some (.int .i64 m1) := (HN4.out.alloc (.cells #[.int .i64 y2, .int .i64 m2, .int .i64 d2] 23)).cell 1
    have a2 : (w4.alloc (.cells #[.int .i64 y2, .int .i64 m2, .int .i64 d2] 23)).cell? ⟨g, 2, none⟩ = some (.int .i64 31) := (HN4.out.alloc (.cells #[.int .i64 y2, .int .i64 m2, .int .i64 d2] 23)).cell 2
    have an0 : (w4.alloc (.cells #[.int .i64 y2, .int .i64 m2, .int .i64 d2] 23)).cell? ⟨w4.heap.size, 0, none⟩ = some (.int .i64 y2) := (Blk.new w4 23 #[.int .i64 y2, .int .i64 m2, .int .i64 d2]).cell 0
    have an1 : (w4.alloc (.cells #[.int .i64 y2, .int .i64 m2, .int .i64 d2] 23)).cell? ⟨w4.heap.size, 1, none⟩ = some (.int .i64 m2) := (Blk.new w4 23 #[.int .i64 y2, .int .i64 m2, .int .i64 d2]).cell 1
    have an2 : (w4.alloc (.cells #[.int .i64 y2, .int .i64 m2, .int .i64 d2] 23)).cell? ⟨w4.heap.size, 2, none⟩ = some (.int .i64 d2) := (Blk.new w4 23 #[.int .i64 y2, .int .i64 m2, .int .i64 d2]).cell 2
    have af : (w4.alloc (.cells #[.int .i64 y2, .int .i64 m2, .int .i64 d2] 23)).frozen? ⟨g, 2, none⟩ = false := (HN4.out.alloc (.cells #[.int .i64 y2, .int .i64 m2, .int .i64 d2] 23)).frozen 2
    have ag : (w4.alloc (.cells #[.int .i64 y2, .int .i64 m2, .int .i64 d2] 23)).frozen? ⟨w4.heap.size, 2, none⟩ = false := (Blk.new w4 23 #[.int .i64 y2, .int .i64 m2, .int .i64 d2]).frozen 2
    have aB : Held (Below w.heap.size w (w4.alloc (.cells #[.int .i64 y2, .int .i64 m2, .int .i64 d2] 23))) := ⟨(HB4.out.alloc hs4 (.cells #[.int .i64 y2, .int .i64 m2, .int .i64 d2] 23))⟩
    have c0 : ((w4.alloc (.cells #[.int .i64 y2, .int .i64 m2, .int .i64 d2] 23)).setCell ⟨g, 2, none⟩ (.int .i64 30)).cell? ⟨g, 0, none⟩ = some (.int .i64 y1) := ((HN4.out.alloc (.cells #[.int .i64 y2, .int .i64 m2, .int .i64 d2] 23)).set_ 2 (.int .i64 30)).cell 0
    have c1 : ((w4.alloc (.cells #[.int .i64 y2, .int .i64 m2, .int .i64 d2] 23)).setCell ⟨g, 2, none⟩ (.int .i64 30)).cell? ⟨g, 1, none⟩ = some (.int .i64 m1) := ((HN4.out.alloc (.cells #[.int .i64 y2, .int .i64 m2, .int .i64 d2] 23)).set_ 2 (.int .i64 30)).cell 1
    have c2 : ((w4.alloc (.cells #[.int .i64 y2, .int .i64 m2, .int .i64 d2] 23)).setCell ⟨g, 2, none⟩ (.int .i64 30)).cell? ⟨g, 2, none⟩ = some (.int .i64 30) := ((HN4.out.alloc (.cells #[.int .i64 y2, .int .i64 m2, .int .i64 d2] 23)).set_ 2 (.int .i64 30)).cell 2
    have cn0 : ((w4.alloc (.cells #[.int .i64 y2, .int .i64 m2, .int .i64 d2] 23)).setCell ⟨g, 2, none⟩ (.int .i64 30)).cell? ⟨w4.heap.size, 0, none⟩ = some (.int .i64 y2) := ((Blk.new w4 23 #[.int .i64 y2, .int .i64 m2, .int .i64 d2]).far hne2 (.int .i64 30)).cell 0
    have cn1 : ((w4.alloc (.cells #[.int .i64 y2, .int .i64 m2, .int .i64 d2] 23)).setCell ⟨g, 2, none⟩ (.int .i64 30)).cell? ⟨w4.heap.size, 1, none⟩ = some (.int .i64 m2) := ((Blk.new w4 23 #[.int .i64 y2, .int .i64 m2, .int .i64 d2]).far hne2 (.int .i64 30)).cell 1
    have cn2 : ((w4.alloc (.cells #[.int .i64 y2, .int .i64 m2, .int .i64 d2] 23)).setCell ⟨g, 2, none⟩ (.int .i64 30)).cell? ⟨w4.heap.size, 2, none⟩ = some (.int .i64 d2) := ((Blk.new w4 23 #[.int .i64 y2, .int .i64 m2, .int .i64 d2]).far hne2 (.int .i64 30)).cell 2
    have cf : ((w4.alloc (.cells #[.int .i64 y2, .int .i64 m2, .int .i64 d2] 23)).setCell ⟨g, 2, none⟩ (.int .i64 30)).frozen? ⟨g, 2, none⟩ = false := ((HN4.out.alloc (.cells #[.int .i64 y2, .int .i64 m2, .int .i64 d2] 23)).set_ 2 (.int .i64 30)).frozen 2
    have cg : ((w4.alloc (.cells #[.int .i64 y2, .int .i64 m2, .int .i64 d2] 23)).setCell ⟨g, 2, none⟩ (.int .i64 30)).frozen? ⟨w4.heap.size, 2, none⟩ = false := ((Blk.new w4 23 #[.int .i64 y2, .int .i64 m2, .int .i64 d2]).far hne2 (.int .i64 30)).frozen 2
    have cB : Held (Below w.heap.size w ((w4.alloc (.cells #[.int .i64 y2, .int .i64 m2, .int .i64 d2] 23)).setCell ⟨g, 2, none⟩ (.int .i64 30))) := ⟨((HB4.out.alloc hs4 (.cells #[.int .i64 y2, .int .i64 m2, .int .i64 d2] 23)).setCell hs2 (.int .i64 30))⟩
    go_wp2
    go_ret3
    refine ⟨by rw [Hf.out]; first | rfl | (simp; done) | (congr 4; first | omega | (simp; omega)), ?_⟩
    first | exact aB.out | exact cB.out | exact (HB4.out.setCell hs2 _).alloc (HB4.out.setCell hs2 _).size _
  · go_enter Tryd.func21, Tryd.ntmps21
    go_wp2_with fail
    refine (rOf_in a w ha1 ha2).mono ?_
    rintro e w2 ⟨y1', m1', d1', rfl, hR1q, hN1q, hb⟩
    have HB2 := Held.mk hb
    have hs2 := hb.size
    clear hb
    obtain ⟨e1, e2, e3⟩ := hR1q.inj HR1.out (by rw [hN1q, HE1.out])
    rw [e1, e2, e3]
    clear hR1q hN1q e1 e2 e3
    unfold Dt
    have HN2 := Held.mk (Blk.new w2 23 #[.int .i64 y1, .int .i64 m1, .int .i64 31])
    have HB3 : Held (Below w.heap.size w (w2.alloc (.cells #[.int .i64 y1, .int .i64 m1, .int .i64 31] 23))) := ⟨HB2.out.alloc hs2 _⟩
    go_wp2_with fail
    generalize w2.alloc (.cells #[.int .i64 y1, .int .i64 m1, .int .i64 31] 23) = w3 at *
    generalize w2.heap.size = g at *
    refine (rOf_in b w3 hb1 hb2).mono ?_
    rintro e w4 ⟨y2', m2', d2', rfl, hR2q, hN2q, hb⟩
    have HN4 := Held.mk (HN2.out.keep (Keep.of_below hb (fun _ => False)) (fun h => h))
    have HB4 : Held (Below w.heap.size w w4) := ⟨HB3.out.trans (hb.mono HB3.out.size)⟩
    have hs4 := HB4.out.size
    clear hb HB3 HB2
    obtain ⟨e1, e2, e3⟩ := hR2q.inj HR2.out (by rw [hN2q, HE2.out])
    rw [e1, e2, e3]
    clear hR2q hN2q e1 e2 e3
    unfold Dt
    have hlt4 := HN4.out.lt
    have hne : g ≠ w4.heap.size := Nat.ne_of_lt hlt4
    have hne2 : w4.heap.size ≠ g := hne.symm
    have z0 : w4.cell? ⟨g, 0, none⟩ = some (.int .i64 y1) := HN4.out.cell 0
    have z1 : w4.cell? ⟨g, 1, none⟩ = some (.int .i64 m1) := HN4.out.cell 1
    have z2 : w4.cell? ⟨g, 2, none⟩ = some (.int .i64 31) := HN4.out.cell 2
    have zf : w4.frozen? ⟨g, 2, none⟩ = false := HN4.out.frozen 2
    have a0 : (w4.alloc (.cells #[.int .i64 y2, .int .i64 m2, .int .i64 31] 23)).cell? ⟨g, 0, none⟩ = some (.int .i64 y1) := (HN4.out.alloc (.cells #[.int .i64 y2, .int .i64 m2, .int .i64 31] 23)).cell 0
    have a1 : (w4.alloc (.cells #[.int .i64 y2, .int .i64 m2, .int .i64 31] 23)).cell? ⟨g, 1, none⟩ = some (.int .i64 m1) := (HN4.out.alloc (.cells #[.int .i64 y2, .int .i64 m2, .int .i64 31] 23)).cell 1
    have a2 : (w4.alloc (.cells #[.int .i64 y2, .int .i64 m2, .int .i64 31] 23)).cell? ⟨g, 2, none⟩ = some (.int .i64 31) := (HN4.out.alloc (.cells #[.int .i64 y2, .int .i64 m2, .int .i64 31] 23)).cell 2
    have an0 : (w4.alloc (.cells #[.int .i64 y2, .int .i64 m2, .int .i64 31] 23)).cell? ⟨w4.heap.size, 0, none⟩ = some (.int .i64 y2) := (Blk.new w4 23 #[.int .i64 y2, .int .i64 m2, .int .i64 31]).cell 0
    have an1 : (w4.alloc (.cells #[.int .i64 y2, .int .i64 m2, .int .i64 31] 23)).cell? ⟨w4.heap.size, 1, none⟩ = some (.int .i64 m2) := (Blk.new w4 23 #[.int .i64 y2, .int .i64 m2, .int .i64 31]).cell 1
    have an2 : (w4.alloc (.cells #[.int .i64 y2, .int .i64 m2, .int .i64 31] 23)).cell? ⟨w4.heap.size, 2, none⟩ = some (.int .i64 31) := (Blk.new w4 23 #[.int .i64 y2, .int .i64 m2, .int .i64 31]).cell 2
    have af : (w4.alloc (.cells #[.int .i64 y2, .int .i64 m2, .int .i64 31] 23)).frozen? ⟨g, 2, none⟩ = false := (HN4.out.alloc (.cells #[.int .i64 y2, .int .i64 m2, .int .i64 31] 23)).frozen 2
    have ag : (w4.alloc (.cells #[.int .i64 y2, .int .i64 m2, .int .i64 31] 23)).frozen? ⟨w4.heap.size, 2, none⟩ = false := (Blk.new w4 23 #[.int .i64 y2, .int .i64 m2, .int .i64 31]).frozen 2
    have aB : Held (Below w.heap.size w (w4.alloc (.cells #[.int .i64 y2, .int .i64 m2, .int .i64 31] 23))) := ⟨(HB4.out.alloc hs4 (.cells #[.int .i64 y2, .int .i64 m2, .int .i64 31] 23))⟩
    have b0 : (w4.alloc (.cells #[.int .i64 y2, .int .i64 m2, .int .i64 30] 23)).cell? ⟨g, 0, none⟩ = some (.int .i64 y1) := (HN4.out.alloc (.cells #[.int .i64 y2, .int .i64 m2, .int .i64 30] 23)).cell 0
    have b1 : (w4.alloc (.cells #[.int .i64 y2, .int .i64 m2, .int .i64 30] 23)).cell? ⟨g, 1, none⟩ = some (.int .i64 m1) := (HN4.out.alloc (.cells #[.int .i64 y2, .int .i64 m2, .int .i64 30] 23)).cell 1
    have b2 : (w4.alloc (.cells #[.int .i64 y2, .int .i64 m2, .int .i64 30] 23)).cell? ⟨g, 2, none⟩ = some (.int .i64 31) := (HN4.out.alloc (.cells #[.int .i64 y2, .int .i64 m2, .int .i64 30] 23)).cell 2
    have bn0 : (w4.alloc (.cells #[.int .i64 y2, .int .i64 m2, .int .i64 30] 23)).cell? ⟨w4.heap.size, 0, none⟩ = some (.int .i64 y2) := (Blk.new w4 23 #[.int .i64 y2, .int .i64 m2, .int .i64 30]).cell 0
    have bn1 : (w4.alloc (.cells #[.int .i64 y2, .int .i64 m2, .int .i64 30] 23)).cell? ⟨w4.heap.size, 1, none⟩ = some (.int .i64 m2) := (Blk.new w4 23 #[.int .i64 y2, .int .i64 m2, .int .i64 30]).cell 1
    have bn2 : (w4.alloc (.cells #[.int .i64 y2, .int .i64 m2, .int .i64 30] 23)).cell? ⟨w4.heap.size, 2, none⟩ = some (.int .i64 30) := (Blk.new w4 23 #[.int .i64 y2, .int .i64 m2, .int .i64 30]).cell 2
    have bf : (w4.alloc (.cells #[.int .i64 y2, .int .i64 m2, .int .i64 30] 23)).frozen? ⟨g, 2, none⟩ = false := (HN4.out.alloc (.cells #[.int .i64 y2, .int .i64 m2, .int .i64 30] 23)).frozen 2
    have bg : (w4.alloc (.cells #[.int .i64 y2, .int .i64 m2, .int .i64 30] 23)).frozen? ⟨w4.heap.size, 2, none⟩ = false := (Blk.new w4 23 #[.int .i64 y2, .int .i64 m2, .int .i64 30]).frozen 2
    have bB : Held (Below w.heap.size w (w4.alloc (.cells #[.int .i64 y2, .int .i64 m2, .int .i64 30] 23))) := ⟨(HB4.out.alloc hs4 (.cells #[.int .i64 y2, .int .i64 m2, .int .i64 30] 23))⟩
    have c0 : ((w4.alloc (.cells #[.int .i64 y2, .int .i64 m2, .int .i64 31] 23)).setCell ⟨g, 2, none⟩ (.int .i64 30)).cell? ⟨g, 0, none⟩ = some (.int .i64 y1) := ((HN4.out.alloc (.cells #[.int .i64 y2, .int .i64 m2, .int .i64 31] 23)).set_ 2 (.int .i64 30)).cell 0
    have c1 : ((w4.alloc (.cells #[.int .i64 y2, .int .i64 m2, .int .i64 31] 23)).setCell ⟨g, 2, none⟩ (.int .i64 30)).cell? ⟨g, 1, none⟩ = some (.int .i64 m1) := ((HN4.out.alloc (.cells #[.int .i64 y2, .int .i64 m2, .int .i64 31] 23)).set_ 2 (.int .i64 30)).cell 1
    have c2 : ((w4.alloc (.cells #[.int .i64 y2, .int .i64 m2, .int .i64 31] 23)).setCell ⟨g, 2, none⟩ (.int .i64 30)).cell? ⟨g, 2, none⟩ = some (.int .i64 30) := ((HN4.out.alloc (.cells #[.int .i64 y2, .int .i64 m2, .int .i64 31] 23)).set_ 2 (.int .i64 30)).cell 2
    have cn0 : ((w4.alloc (.cells #[.int .i64 y2, .int .i64 m2, .int .i64 31] 23)).setCell ⟨g, 2, none⟩ (.int .i64 30)).cell? ⟨w4.heap.size, 0, none⟩ = some (.int .i64 y2) := ((Blk.new w4 23 #[.int .i64 y2, .int .i64 m2, .int .i64 31]).far hne2 (.int .i64 30)).cell 0
    have cn1 : ((w4.alloc (.cells #[.int .i64 y2, .int .i64 m2, .int .i64 31] 23)).setCell ⟨g, 2, none⟩ (.int .i64 30)).cell? ⟨w4.heap.size, 1, none⟩ = some (.int .i64 m2) := ((Blk.new w4 23 #[.int .i64 y2, .int .i64 m2, .int .i64 31]).far hne2 (.int .i64 30)).cell 1
    have cn2 : ((w4.alloc (.cells #[.int .i64 y2, .int .i64 m2, .int .i64 31] 23)).setCell ⟨g, 2, none⟩ (.int .i64 30)).cell? ⟨w4.heap.size, 2, none⟩ = some (.int .i64 31) := ((Blk.new w4 23 #[.int .i64 y2, .int .i64 m2, .int .i64 31]).far hne2 (.int .i64 30)).cell 2
    have cf : ((w4.alloc (.cells #[.int .i64 y2, .int .i64 m2, .int .i64 31] 23)).setCell ⟨g, 2, none⟩ (.int .i64 30)).frozen? ⟨g, 2, none⟩ = false := ((HN4.out.alloc (.cells #[.int .i64 y2, .int .i64 m2, .int .i64 31] 23)).set_ 2 (.int .i64 30)).frozen 2
    have cg : ((w4.alloc (.cells #[.int .i64 y2, .int .i64 m2, .int .i64 31] 23)).setCell ⟨g, 2, none⟩ (.int .i64 30)).frozen? ⟨w4.heap.size, 2, none⟩ = false := ((Blk.new w4 23 #[.int .i64 y2, .int .i64 m2, .int .i64 31]).far hne2 (.int .i64 30)).frozen 2
    have cB : Held (Below w.heap.size w ((w4.alloc (.cells #[.int .i64 y2, .int .i64 m2, .int .i64 31] 23)).setCell ⟨g, 2, none⟩ (.int .i64 30))) := ⟨((HB4.out.alloc hs4 (.cells #[.int .i64 y2, .int .i64 m2, .int .i64 31] 23)).setCell hs2 (.int .i64 30))⟩
    have d0 : (((w4.alloc (.cells #[.int .i64 y2, .int .i64 m2, .int .i64 31] 23)).setCell ⟨g, 2, none⟩ (.int .i64 30)).setCell ⟨w4.heap.size, 2, none⟩ (.int .i64 30)).cell? ⟨g, 0, none⟩ = some (.int .i64 y1) := (((HN4.out.alloc (.cells #[.int .i64 y2, .int .i64 m2, .int .i64 31] 23)).set_ 2 (.int .i64 30)).far hne (.int .i64 30)).cell 0
    have d1 : (((w4.alloc (.cells #[.int .i64 y2, .int .i64 m2, .int .i64 31] 23)).setCell ⟨g, 2, none⟩ (.int .i64 30)).setCell ⟨w4.heap.size, 2, none⟩ (.int .i64 30)).cell? ⟨g, 1, none⟩ = some (.int .i64 m1) := (((HN4.out.alloc (.cells #[.int .i64 y2, .int .i64 m2, .int .i64 31] 23)).set_ 2 (.int .i64 30)).far hne (.int .i64 30)).cell 1
    have d2 : (((w4.alloc (.cells #[.int .i64 y2, .int .i64 m2, .int .i64 31] 23)).setCell ⟨g, 2, none⟩ (.int .i64 30)).setCell ⟨w4.heap.size, 2, none⟩ (.int .i64 30)).cell? ⟨g, 2, none⟩ = some (.int .i64 30) := (((HN4.out.alloc (.cells #[.int .i64 y2, .int .i64 m2, .int .i64 31] 23)).set_ 2 (.int .i64 30)).far hne (.int .i64 30)).cell 2
    have dn0 : (((w4.alloc (.cells #[.int .i64 y2, .int .i64 m2, .int .i64 31] 23)).setCell ⟨g, 2, none⟩ (.int .i64 30)).setCell ⟨w4.heap.size, 2, none⟩ (.int .i64 30)).cell? ⟨w4.heap.size, 0, none⟩ = some (.int .i64 y2) := (((Blk.new w4 23 #[.int .i64 y2, .int .i64 m2, .int .i64 31]).far hne2 (.int .i64 30)).set_ 2 (.int .i64 30)).cell 0
    have dn1 : (((w4.alloc (.cells #[.int .i64 y2, .int .i64 m2, .int .i64 31] 23)).setCell ⟨g, 2, none⟩ (.int .i64 30)).setCell ⟨w4.heap.size, 2, none⟩ (.int .i64 30)).cell? ⟨w4.heap.size, 1, none⟩ = some (.int .i64 m2) := (((Blk.new w4 23 #[.int .i64 y2, .int .i64 m2, .int .i64 31]).far hne2 (.int .i64 30)).set_ 2 (.int .i64 30)).cell 1
    have dn2 : (((w4.alloc (.cells #[.int .i64 y2, .int .i64 m2, .int .i64 31] 23)).setCell ⟨g, 2, none⟩ (.int .i64 30)).setCell ⟨w4.heap.size, 2, none⟩ (.int .i64 30)).cell? ⟨w4.heap.size, 2, none⟩ = some (.int .i64 30) := (((Blk.new w4 23 #[.int .i64 y2, .int .i64 m2, .int .i64 31]).far hne2 (.int .i64 30)).set_ 2 (.int .i64 30)).cell 2
    have df : (((w4.alloc (.cells #[.int .i64 y2, .int .i64 m2, .int .i64 31] 23)).setCell ⟨g, 2, none⟩ (.int .i64 30)).setCell ⟨w4.heap.size, 2, none⟩ (.int .i64 30)).frozen? ⟨g, 2, none⟩ = false := (((HN4.out.alloc (.cells #[.int .i64 y2, .int .i64 m2, .int .i64 31] 23)).set_ 2 (.int .i64 30)).far hne (.int .i64 30)).frozen 2
    have dg : (((w4.alloc (.cells #[.int .i64 y2, .int .i64 m2, .int .i64 31] 23)).setCell ⟨g, 2, none⟩ (.int .i64 30)).setCell ⟨w4.heap.size, 2, none⟩ (.int .i64 30)).frozen? ⟨w4.heap.size, 2, none⟩ = false := (((Blk.new w4 23 #[.int .i64 y2, .int .i64 m2, .int .i64 31]).far hne2 (.int .i64 30)).set_ 2 (.int .i64 30)).frozen 2
    have dB : Held (Below w.heap.size w (((w4.alloc (.cells #[.int .i64 y2, .int .i64 m2, .int .i64 31] 23)).setCell ⟨g, 2, none⟩ (.int .i64 30)).setCell ⟨w4.heap.size, 2, none⟩ (.int .i64 30))) := ⟨(((HB4.out.alloc hs4 (.cells #[.int .i64 y2, .int .i64 m2, .int .i64 31] 23)).setCell hs2 (.int .i64 30)).setCell hs4 (.int .i64 30))⟩
    go_wp2
    go_ret3
    refine ⟨by rw [Hf.out]; first | rfl | (simp; done) | (congr 4; first | omega | (simp; omega)), ?_⟩
    first | exact aB.out | exact bB.out | exact cB.out | exact dB.out | exact (HB4.out.setCell hs2 _).alloc (HB4.out.setCell hs2 _).size _
end Cal
end Go.Proofs.YtlnkdgjlbpldpaaDoor
