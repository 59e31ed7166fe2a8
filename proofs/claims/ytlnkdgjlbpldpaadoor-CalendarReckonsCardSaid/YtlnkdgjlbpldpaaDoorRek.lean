/- CalendarReckons: the walk. -/
import Derived.Test.YtlnkdgjlbpldpaaDoorFrc
import Derived.Test.YtlnkdgjlbpldpaaDoorDts
namespace Go.Proofs.YtlnkdgjlbpldpaaDoor
set_option linter.unusedVariables false
set_option linter.unusedSimpArgs false
namespace Cal
open Go.RowKit Mem Go.Proofs.YtlnkdgjlbpldpaaDoorW.PrintLast Err

theorem plain_frac (w : World) (hg : Laid w) : Calls Tryd.prog 9 #[fracArgV, .int .i64 1] w fun e w' => e = .returned (.bool true) ∧ Below w.heap.size w w' :=
  plain_err _ _ 1 1 w (isErr_wrong ⟨#[102, 114, 97, 99, 116, 105, 111, 110]⟩ 1) (by decide) (by decide) hg
theorem date_one : Right 1 1 1 ∧ numI 1 1 1 = 1 := ⟨⟨by omega, by omega, by omega, by omega, by omega, by decide⟩, by decide⟩
theorem date_next {y m d n : Int} (hR : Right y m d) (hN : numI y m d = n) (hn : n + 1 ≤ 3652059) : ∃ y' m' d', Right y' m' d' ∧ numI y' m' d' = n + 1 := by
  have hy1 := hR.y1
  have hm1 := hR.m1
  have hm2 := hR.m2
  have hd1 := hR.d1
  by_cases hd : d < lengthI y m
  · exact ⟨y, m, d + 1, ⟨hy1, hR.y2, hm1, hm2, by omega, by omega⟩, by rw [num_cum] at hN ⊢; omega⟩
  · have hde : d = lengthI y m := by have := hR.d2; omega
    have hcs := cum_step y m hm1 hm2
    rw [num_cum] at hN
    by_cases hm : m < 12
    · have hl := len_lo y (m + 1) (by omega) (by omega)
      exact ⟨y, m + 1, 1, ⟨hy1, hR.y2, by omega, by omega, by omega, by omega⟩, by rw [num_cum]; omega⟩
    · obtain rfl : m = 12 := by omega
      rw [show (12 : Int) + 1 = 13 from rfl, cum13] at hcs
      have hys := ys_step y hy1
      have hc1 := cum1 (y + 1)
      have hy : y + 1 ≤ 9999 := by
        by_cases h : y + 1 ≤ 9999
        · exact h
        · obtain rfl : y = 9999 := by have := hR.y2; omega
          have : ysI (9999 + 1) = 3652059 := by decide
          omega
      have hl := len_lo (y + 1) 1 (by omega) (by omega)
      exact ⟨y + 1, 1, 1, ⟨by omega, hy, by omega, by omega, by omega, by omega⟩, by rw [num_cum, hc1]; omega⟩
theorem date_from (L : Int) (hL : L ≤ 3652059) (k : Nat) : (k : Int) + 1 ≤ L → ∃ y m d, Right y m d ∧ numI y m d = (k : Int) + 1 := by
  induction k with
  | zero => exact fun _ => ⟨1, 1, 1, date_one.1, date_one.2⟩
  | succ k ih =>
    intro hk
    obtain ⟨y, m, d, hR, hN⟩ := ih (by omega)
    obtain ⟨y', m', d', h1, h2⟩ := date_next hR hN (by omega)
    exact ⟨y', m', d', h1, by rw [h2]; omega⟩
theorem day_date {n : Int} (h : isD n) : ∃ y m d, Right y m d ∧ numI y m d = n := by
  obtain ⟨h1, h2⟩ := h
  obtain ⟨y, m, d, hR, hN⟩ := date_from 3652059 (Int.le_refl _) (n - 1).toNat (by omega)
  exact ⟨y, m, d, hR, by rw [hN]; omega⟩
theorem easter_pair (y : Int) : ∃ x E k, (∀ w, Calls Tryd.prog 16 #[.int .i64 y] w fun e w' => e = .returned (.tuple #[.int .i64 x, E]) ∧ Below w.heap.size w w') ∧ (∀ w, Calls Tryd.prog 17 #[.int .i64 y] w fun e w' => e = .returned (.tuple #[.int .i64 x, .int .i64 k]) ∧ Below w.heap.size w w') ∧
    (∀ w, Laid w → Calls Tryd.prog 9 #[E, .int .i64 k] w fun e w' => e = .returned (.bool true) ∧ Below w.heap.size w w') := by
  by_cases h : 1 ≤ y ∧ y ≤ 9999
  · exact ⟨easterI y, .nilIface, 0, fun w => Easter_in y w h.1 h.2, fun w => by rw [← easter_eq y h.1 h.2]; exact rEaster_in y w h.1 h.2, fun w _ => plain_ok w⟩
  · exact ⟨0, errDateV, 8, fun w => (Easter_out y w h).mono (fun e w' ⟨he, hw⟩ => ⟨he, hw ▸ Below.refl _ _⟩), fun w => (rEaster_out y w h).mono (fun e w' ⟨he, hw⟩ => ⟨he, hw ▸ Below.refl _ _⟩), fun w hg => plain_errDate w hg⟩
theorem months_pair (n k : Int) : ∃ x E j, (∀ w, Calls Tryd.prog 18 #[.int .i64 n, .int .i64 k] w fun e w' => e = .returned (.tuple #[.int .i64 x, E]) ∧ Below w.heap.size w w') ∧ (∀ w, Calls Tryd.prog 19 #[.int .i64 n, .int .i64 k] w fun e w' => e = .returned (.tuple #[.int .i64 x, .int .i64 j]) ∧ Below w.heap.size w w') ∧
    (∀ w, Laid w → Calls Tryd.prog 9 #[E, .int .i64 j] w fun e w' => e = .returned (.bool true) ∧ Below w.heap.size w w') := by
  by_cases h : isD n ∧ -119988 ≤ k ∧ k ≤ 119988
  · obtain ⟨hn, hk1, hk2⟩ := h
    obtain ⟨y, m, d, hR, hN⟩ := day_date hn
    by_cases ht : (12 * y + m - 1 + k) < 12 ∨ 120000 ≤ (12 * y + m - 1 + k)
    · exact ⟨0, noDayV, 8, fun w => (months_any n k y m d w hR hN hk1 hk2).mono (fun e w' ⟨hb, he⟩ => by rw [if_pos ht] at he; exact ⟨he, hb⟩), fun w => (rMonths_any n k y m d w hR hN hk1 hk2).mono (fun e w' ⟨hb, he⟩ => by rw [if_pos ht] at he; exact ⟨he, hb⟩), fun w hg => plain_noDay w hg⟩
    · exact ⟨monthsI (12 * y + m - 1 + k) d, .nilIface, 0, fun w => (months_any n k y m d w hR hN hk1 hk2).mono (fun e w' ⟨hb, he⟩ => by rw [if_neg ht] at he; exact ⟨he, hb⟩), fun w => (rMonths_any n k y m d w hR hN hk1 hk2).mono (fun e w' ⟨hb, he⟩ => by rw [if_neg ht] at he; exact ⟨he, hb⟩), fun w _ => plain_ok w⟩
  · exact ⟨0, noDayV, 8, fun w => (months_out n k w h).mono (fun e w' ⟨he, hw⟩ => ⟨he, hw ▸ Below.refl _ _⟩), fun w => rMonths_out n k w h, fun w hg => plain_noDay w hg⟩
theorem frac_pair (a b c : Int) : ∃ x z E j, (∀ w, Calls Tryd.prog 20 #[.int .i64 a, .int .i64 b, .int .i64 c] w fun e w' => e = .returned (.tuple #[.int .i64 x, .int .i64 z, E]) ∧ Below w.heap.size w w') ∧ (∀ w, Calls Tryd.prog 21 #[.int .i64 a, .int .i64 b, .int .i64 c] w fun e w' => e = .returned (.tuple #[.int .i64 x, .int .i64 z, .int .i64 j]) ∧ Below w.heap.size w w') ∧
    (∀ w, Laid w → Calls Tryd.prog 9 #[E, .int .i64 j] w fun e w' => e = .returned (.bool true) ∧ Below w.heap.size w w') := by
  by_cases h : isD a ∧ isD b
  · obtain ⟨ha, hb⟩ := h
    by_cases hc : c < 0 ∨ 3 < c ∨ b < a
    · exact ⟨0, 0, fracArgV, 1, fun w => frac_arg a b c w ha hb hc, fun w => rfrac_arg a b c w ha hb hc, fun w hg => plain_frac w hg⟩
    · by_cases h01 : c = 0 ∨ c = 1
      · exact ⟨b - a, if c = 0 then 360 else 365, .nilIface, 0, fun w => frac_days a b c w ha hb (by omega) h01, fun w => rfrac_days a b c w ha hb (by omega) h01, fun w _ => plain_ok w⟩
      · obtain ⟨y1, m1, d1, hR1, hN1⟩ := day_date ha
        obtain ⟨y2, m2, d2, hR2, hN2⟩ := day_date hb
        exact ⟨frI c y1 m1 d1 y2 m2 d2, 360, .nilIface, 0, fun w => frac_thirty a b c y1 m1 d1 y2 m2 d2 w (by omega) (by omega) hR1 hN1 hR2 hN2, fun w => rfrac_thirty a b c y1 m1 d1 y2 m2 d2 w (by omega) (by omega) hR1 hN1 hR2 hN2, fun w _ => plain_ok w⟩
  · exact ⟨0, 0, noDayV, 8, fun w => frac_out a b c w h, fun w => rfrac_out a b c w h, fun w hg => plain_noDay w hg⟩
set_option maxHeartbeats 16000000 in
set_option maxRecDepth 1000000 in
theorem reckons_any (a b k c y : Int) (w : World) (hg : Laid w) : Calls Tryd.prog 4 #[.agg #[.int .i64 a, .int .i64 b, .int .i64 k, .int .i64 c, .int .i64 y]] w fun e w' => e = .returned (.bool true) ∧ Below w.heap.size w w' := by
  obtain ⟨x1, E1, j1, p1, r1, q1⟩ := easter_pair y
  obtain ⟨x2, E2, j2, p2, r2, q2⟩ := months_pair a k
  obtain ⟨x3, z3, E3, j3, p3, r3, q3⟩ := frac_pair a b c
  have P1 := Held.mk p1
  have R1 := Held.mk r1
  have Q1 := Held.mk q1
  have P2 := Held.mk p2
  have R2 := Held.mk r2
  have Q2 := Held.mk q2
  have P3 := Held.mk p3
  have R3 := Held.mk r3
  have Q3 := Held.mk q3
  clear p1 p2 p3 r1 r2 r3 q1 q2 q3
  have HB0 : Held (Below w.heap.size w (w.alloc (.cells #[.int .i64 a, .int .i64 b, .int .i64 k, .int .i64 c, .int .i64 y] 43))) := ⟨(Below.refl _ _).alloc (Nat.le_refl _) _⟩
  have HN0 := Held.mk (Blk.new w 43 #[.int .i64 a, .int .i64 b, .int .i64 k, .int .i64 c, .int .i64 y])
  have HG0 := Held.mk (hg.below HB0.out)
  clear hg
  generalize hW0 : w.heap.size = W0 at *
  have HW0 := Held.mk hW0
  clear hW0
  go_enter Tryd.func4, Tryd.ntmps4
  go_wp2_with fail
  generalize w.alloc (.cells #[.int .i64 a, .int .i64 b, .int .i64 k, .int .i64 c, .int .i64 y] 43) = x0' at *
  rw [HW0.out]
  refine (P1.out _).mono ?_
  rintro e v1 ⟨rfl, hb⟩
  have HB1 : Held (Below W0 w v1) := ⟨HB0.out.trans (hb.mono (by have := HB0.out.size; rw [HW0.out] at this; exact this))⟩
  have HG1 := Held.mk (HG0.out.below hb)
  have HN1 := Held.mk (HN0.out.keep (Keep.of_below hb (fun _ => False)) (fun h => h))
  clear hb HB0 HG0 HN0
  have k0 := HN1.out.cell 0
  have k1 := HN1.out.cell 1
  have k2 := HN1.out.cell 2
  have k3 := HN1.out.cell 3
  have k4 := HN1.out.cell 4
  simp at k0 k1 k2 k3 k4
  go_wp2_with fail
  refine (R1.out _).mono ?_
  rintro e v2 ⟨rfl, hb⟩
  have HB2 : Held (Below W0 w v2) := ⟨HB1.out.trans (hb.mono (by have := HB1.out.size; rw [HW0.out] at this; exact this))⟩
  have HG2 := Held.mk (HG1.out.below hb)
  have HN2 := Held.mk (HN1.out.keep (Keep.of_below hb (fun _ => False)) (fun h => h))
  clear hb HB1 HG1 HN1 k0 k1 k2 k3 k4
  have k0 := HN2.out.cell 0
  have k1 := HN2.out.cell 1
  have k2 := HN2.out.cell 2
  have k3 := HN2.out.cell 3
  have k4 := HN2.out.cell 4
  simp at k0 k1 k2 k3 k4
  go_wp2_with fail
  refine (Q1.out _ HG2.out).mono ?_
  rintro e v3 ⟨rfl, hb⟩
  have HB3 : Held (Below W0 w v3) := ⟨HB2.out.trans (hb.mono (by have := HB2.out.size; rw [HW0.out] at this; exact this))⟩
  have HG3 := Held.mk (HG2.out.below hb)
  have HN3 := Held.mk (HN2.out.keep (Keep.of_below hb (fun _ => False)) (fun h => h))
  clear hb HB2 HG2 HN2 k0 k1 k2 k3 k4
  have k0 := HN3.out.cell 0
  have k1 := HN3.out.cell 1
  have k2 := HN3.out.cell 2
  have k3 := HN3.out.cell 3
  have k4 := HN3.out.cell 4
  simp at k0 k1 k2 k3 k4
  go_wp2_with fail
  refine (P2.out _).mono ?_
  rintro e v4 ⟨rfl, hb⟩
  have HB4 : Held (Below W0 w v4) := ⟨HB3.out.trans (hb.mono (by have := HB3.out.size; rw [HW0.out] at this; exact this))⟩
  have HG4 := Held.mk (HG3.out.below hb)
  have HN4 := Held.mk (HN3.out.keep (Keep.of_below hb (fun _ => False)) (fun h => h))
  clear hb HB3 HG3 HN3 k0 k1 k2 k3 k4
  have k0 := HN4.out.cell 0
  have k1 := HN4.out.cell 1
  have k2 := HN4.out.cell 2
  have k3 := HN4.out.cell 3
  have k4 := HN4.out.cell 4
  simp at k0 k1 k2 k3 k4
  go_wp2_with fail
  refine (R2.out _).mono ?_
  rintro e v5 ⟨rfl, hb⟩
  have HB5 : Held (Below W0 w v5) := ⟨HB4.out.trans (hb.mono (by have := HB4.out.size; rw [HW0.out] at this; exact this))⟩
  have HG5 := Held.mk (HG4.out.below hb)
  have HN5 := Held.mk (HN4.out.keep (Keep.of_below hb (fun _ => False)) (fun h => h))
  clear hb HB4 HG4 HN4 k0 k1 k2 k3 k4
  have k0 := HN5.out.cell 0
  have k1 := HN5.out.cell 1
  have k2 := HN5.out.cell 2
  have k3 := HN5.out.cell 3
  have k4 := HN5.out.cell 4
  simp at k0 k1 k2 k3 k4
  go_wp2_with fail
  refine (Q2.out _ HG5.out).mono ?_
  rintro e v6 ⟨rfl, hb⟩
  have HB6 : Held (Below W0 w v6) := ⟨HB5.out.trans (hb.mono (by have := HB5.out.size; rw [HW0.out] at this; exact this))⟩
  have HG6 := Held.mk (HG5.out.below hb)
  have HN6 := Held.mk (HN5.out.keep (Keep.of_below hb (fun _ => False)) (fun h => h))
  clear hb HB5 HG5 HN5 k0 k1 k2 k3 k4
  have k0 := HN6.out.cell 0
  have k1 := HN6.out.cell 1
  have k2 := HN6.out.cell 2
  have k3 := HN6.out.cell 3
  have k4 := HN6.out.cell 4
  simp at k0 k1 k2 k3 k4
  go_wp2_with fail
  refine (P3.out _).mono ?_
  rintro e v7 ⟨rfl, hb⟩
  have HB7 : Held (Below W0 w v7) := ⟨HB6.out.trans (hb.mono (by have := HB6.out.size; rw [HW0.out] at this; exact this))⟩
  have HG7 := Held.mk (HG6.out.below hb)
  have HN7 := Held.mk (HN6.out.keep (Keep.of_below hb (fun _ => False)) (fun h => h))
  clear hb HB6 HG6 HN6 k0 k1 k2 k3 k4
  have k0 := HN7.out.cell 0
  have k1 := HN7.out.cell 1
  have k2 := HN7.out.cell 2
  have k3 := HN7.out.cell 3
  have k4 := HN7.out.cell 4
  simp at k0 k1 k2 k3 k4
  go_wp2_with fail
  refine (R3.out _).mono ?_
  rintro e v8 ⟨rfl, hb⟩
  have HB8 : Held (Below W0 w v8) := ⟨HB7.out.trans (hb.mono (by have := HB7.out.size; rw [HW0.out] at this; exact this))⟩
  have HG8 := Held.mk (HG7.out.below hb)
  have HN8 := Held.mk (HN7.out.keep (Keep.of_below hb (fun _ => False)) (fun h => h))
  clear hb HB7 HG7 HN7 k0 k1 k2 k3 k4
  have k0 := HN8.out.cell 0
  have k1 := HN8.out.cell 1
  have k2 := HN8.out.cell 2
  have k3 := HN8.out.cell 3
  have k4 := HN8.out.cell 4
  simp at k0 k1 k2 k3 k4
  go_wp2_with fail
  refine (Q3.out _ HG8.out).mono ?_
  rintro e v9 ⟨rfl, hb⟩
  have HB9 : Held (Below W0 w v9) := ⟨HB8.out.trans (hb.mono (by have := HB8.out.size; rw [HW0.out] at this; exact this))⟩
  have HG9 := Held.mk (HG8.out.below hb)
  have HN9 := Held.mk (HN8.out.keep (Keep.of_below hb (fun _ => False)) (fun h => h))
  clear hb HB8 HG8 HN8 k0 k1 k2 k3 k4
  have k0 := HN9.out.cell 0
  have k1 := HN9.out.cell 1
  have k2 := HN9.out.cell 2
  have k3 := HN9.out.cell 3
  have k4 := HN9.out.cell 4
  simp at k0 k1 k2 k3 k4
  go_wp2
  go_ret
  exact ⟨rfl, HB9.out⟩
end Cal
end Go.Proofs.YtlnkdgjlbpldpaaDoor
