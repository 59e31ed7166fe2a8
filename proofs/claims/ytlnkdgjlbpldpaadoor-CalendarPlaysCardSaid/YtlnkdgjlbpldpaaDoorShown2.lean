/- Calendar: the law's closed example. -/
import Derived.Test.YtlnkdgjlbpldpaaDoorTar2
namespace Go.Proofs.YtlnkdgjlbpldpaaDoor
set_option linter.unusedVariables false
set_option linter.unusedSimpArgs false
namespace Cal
open Go.RowKit Mem Go.Proofs.YtlnkdgjlbpldpaaDoorW.PrintLast Go.Maps

theorem right_of {y m d : Int} (h : (decide (1 ≤ y) && decide (y ≤ 9999) && decide (1 ≤ m) && decide (m ≤ 12) && decide (1 ≤ d) && decide (d ≤ lengthI y m)) = true) : Right y m d := by
  simp only [Bool.and_eq_true, decide_eq_true_eq] at h
  exact ⟨h.1.1.1.1.1, h.1.1.1.1.2, h.1.1.1.2, h.1.1.2, h.1.2, h.2⟩
def cntR (B : Int → Bool) (a : Int) : Nat → Int
  | 0 => 0
  | k + 1 => cntR B a k + bit (B (a + k + 1))
theorem FB_run (B : Int → Bool) (a : Int) (ha : 0 ≤ a) : ∀ k : Nat, FB B (a + k) = FB B a + cntR B a k
  | 0 => by simp [cntR]
  | k + 1 => by
    have ih := FB_run B a ha k
    have hs := FB_succ B (a + k) (by omega)
    have e : a + ((k + 1 : Nat) : Int) = a + k + 1 := by omega
    rw [e, hs, ih]
    simp only [cntR]
    omega
def wkT : List Bool := [false, false, false, false, false, true, true]
def lT : List Int := [738886, 738974, 738977, 739007, 739245, 739246]
theorem lT_eq : tyears 2024 ((2024 : Int) - 2024 + 1).toNat = lT := by decide +kernel
theorem shown_add {x : Option Int} (h : AddR (busB wkT lT) 738973 1 x) : x = some 738978 := by
  have h5 := FB_run (busB wkT lT) 738973 (by decide) 5
  have e5 : cntR (busB wkT lT) 738973 5 = 1 := by decide +kernel
  have b5 : busB wkT lT 738978 = true := by decide +kernel
  rw [e5, show (738973 : Int) + ((5 : Nat) : Int) = 738978 from rfl] at h5
  have hle := (FB_le (busB wkT lT) (a := 738978) (b := 3652059) (by decide) (by decide)).1
  cases x with
  | none =>
    rcases h.no rfl with h | h | h
    · exact absurd (show isD 738973 by decide) h
    · omega
    · omega
  | some y =>
    obtain ⟨hd, _, h2, _⟩ := h.yes y rfl
    obtain ⟨h3, h4⟩ := h2 (by decide)
    rw [FB_inj (busB wkT lT) hd.1 (by decide) h3 b5 (by omega)]
theorem shown_up {m : Int} (h : NextR (busB wkT lT) 1 738976 m) : m = 738978 := by
  obtain ⟨h1, h2, h3, h4⟩ := h.up (by decide) (by decide)
  obtain ⟨_, _, _, he⟩ := h
  have b5 : busB wkT lT 738978 = true := by decide +kernel
  have b6 : busB wkT lT 738976 = false := by decide +kernel
  have b7 : busB wkT lT 738977 = false := by decide +kernel
  have hm : m ≤ 738978 := by
    by_cases hm : m ≤ 738978
    · exact hm
    · have := h4 738978 (by decide) (by omega)
      rw [b5] at this
      cases this
  have := he ⟨by omega, by omega⟩
  have : m = 738976 ∨ m = 738977 ∨ m = 738978 := by omega
  rcases this with rfl | rfl | rfl
  · rw [b6] at this; cases this
  · rw [b7] at this; cases this
  · rfl
theorem shown_down {m : Int} (h : NextR (busB wkT lT) (-1) 738976 m) : m = 738973 := by
  obtain ⟨h1, h2, h3, h4⟩ := h.down (by decide) (by decide)
  obtain ⟨_, _, _, he⟩ := h
  have b3 : busB wkT lT 738973 = true := by decide +kernel
  have b4 : busB wkT lT 738974 = false := by decide +kernel
  have b5 : busB wkT lT 738975 = false := by decide +kernel
  have b6 : busB wkT lT 738976 = false := by decide +kernel
  have hm : 738973 ≤ m := by
    by_cases hm : 738973 ≤ m
    · exact hm
    · have := h4 738973 (by omega) (by decide)
      rw [b3] at this
      cases this
  have := he ⟨by omega, by omega⟩
  have : m = 738973 ∨ m = 738974 ∨ m = 738975 ∨ m = 738976 := by omega
  rcases this with rfl | rfl | rfl | rfl
  · rfl
  · rw [b4] at this; cases this
  · rw [b5] at this; cases this
  · rw [b6] at this; cases this
theorem shown_month : ¬ sameM 738976 738978 := fun h => by
  have := (sameM_iff (y1 := 2024) (m1 := 3) (d1 := 31) (y2 := 2024) (m2 := 4) (d2 := 2) (right_of (by decide +kernel)) (by decide +kernel) (right_of (by decide +kernel)) (by decide +kernel)).1 h
  exact absurd this.2 (by decide)
theorem shown_adj {w w' : World} {e : Ending} (h : adjRes (busB wkT lT) 738976 1 w e w') : e = .returned (.tuple #[.int .i64 738973, .nilIface]) ∧ Below w.heap.size w w' := by
  obtain ⟨hb, m, hm, _, _, h⟩ := h
  rw [if_pos (by decide)] at hm
  obtain rfl := shown_up hm
  rw [if_neg (by decide)] at h
  rcases h with ⟨_, hs, _⟩ | ⟨_, m', hm', _, _, h⟩
  · exact absurd hs shown_month
  · rw [if_pos (by decide)] at hm'
    obtain rfl := shown_down hm'
    rcases h with ⟨_, h⟩ | ⟨h, _⟩
    · exact ⟨h, hb⟩
    · exact absurd (show isD 738973 by decide) h
theorem shown_count : FB (busB wkT lT) (738984 - 1) - FB (busB wkT lT) (738970 - 1) = 8 := by
  have h := FB_run (busB wkT lT) 738969 (by decide) 14
  have e : cntR (busB wkT lT) 738969 14 = 8 := by decide +kernel
  rw [e, show (738969 : Int) + ((14 : Nat) : Int) = 738983 from rfl] at h
  rw [show (738984 : Int) - 1 = 738983 from rfl, show (738970 : Int) - 1 = 738969 from rfl]
  omega
theorem shown_week {n y m d : Int} (hR : Right y m d) (hn : n = 737790) (hN : numI y m d = n) : y = 2020 := by
  subst hn
  exact (hR.inj (right_of (y := 2020) (m := 12) (d := 31) (by decide +kernel)) (by rw [hN]; decide +kernel)).1
theorem shown_ys : ysI 2020 = 737424 := by decide +kernel
theorem shown_th : thI 737793 = 737790 := by decide
theorem shown_mo : monthsI (12 * 2024 + 1 - 1 + 1) 31 = 738945 := by decide +kernel
theorem shown_ea : easterI 2024 = 738976 := by decide +kernel

set_option maxHeartbeats 8000000 in
set_option maxRecDepth 1000000 in
theorem shown_any (w : World) : Calls Tryd.prog 23 #[] w fun e w' => e = .returned (.bool true) ∧ Below w.heap.size w w' := by
  have H0 : Held (Below w.heap.size w w) := ⟨Below.refl _ _⟩
  generalize hW0 : w.heap.size = W0 at *
  go_enter Tryd.func23, Tryd.ntmps23
  go_wp2_with fail
  refine (day_in 1 1 1 _ (right_of (by decide +kernel))).mono ?_
  rintro e w1 ⟨rfl, hb⟩
  rw [show numI 1 1 1 = 1 from by decide +kernel]
  have H1 : Held (Below W0 w w1) := ⟨H0.out.trans (hb.mono (by first | exact Nat.le_of_eq hW0.symm | (have := H0.out.size; rw [hW0] at this; exact this)))⟩
  clear hb H0
  go_wp2_with fail
  refine (day_in 1 12 31 _ (right_of (by decide +kernel))).mono ?_
  rintro e w2 ⟨rfl, hb⟩
  rw [show numI 1 12 31 = 365 from by decide +kernel]
  have H2 : Held (Below W0 w w2) := ⟨H1.out.trans (hb.mono (by first | exact Nat.le_of_eq hW0.symm | (have := H1.out.size; rw [hW0] at this; exact this)))⟩
  clear hb H1
  go_wp2_with fail
  refine (day_in 2000 2 29 _ (right_of (by decide +kernel))).mono ?_
  rintro e w3 ⟨rfl, hb⟩
  rw [show numI 2000 2 29 = 730179 from by decide +kernel]
  have H3 : Held (Below W0 w w3) := ⟨H2.out.trans (hb.mono (by first | exact Nat.le_of_eq hW0.symm | (have := H2.out.size; rw [hW0] at this; exact this)))⟩
  clear hb H2
  go_wp2_with fail
  refine (day_in 9999 12 31 _ (right_of (by decide +kernel))).mono ?_
  rintro e w4 ⟨rfl, hb⟩
  rw [show numI 9999 12 31 = 3652059 from by decide +kernel]
  have H4 : Held (Below W0 w w4) := ⟨H3.out.trans (hb.mono (by first | exact Nat.le_of_eq hW0.symm | (have := H3.out.size; rw [hW0] at this; exact this)))⟩
  clear hb H3
  go_wp2_with fail
  refine (of_in 738521 _ (by decide) (by decide)).mono ?_
  rintro e w5 ⟨y, m, d, rfl, hR, hN, hb⟩
  obtain ⟨rfl, rfl, rfl⟩ := hR.inj (right_of (y := 2023) (m := 1) (d := 1) (by decide +kernel)) (by rw [hN]; decide +kernel)
  have H5 : Held (Below W0 w w5) := ⟨H4.out.trans (hb.mono (by first | exact Nat.le_of_eq hW0.symm | (have := H4.out.size; rw [hW0] at this; exact this)))⟩
  clear hb H4
  clear hR hN
  unfold Dt
  go_wp2_with fail
  have HA : Held (Below W0 w (w5.alloc (.cells #[.int .i64 2023, .int .i64 1, .int .i64 1] 23))) := ⟨H5.out.alloc (by have := H5.out.size; rw [hW0] at this; exact this) _⟩
  generalize hw6 : w5.alloc (.cells #[.int .i64 2023, .int .i64 1, .int .i64 1] 23) = w6 at *
  have k6 : w6.cell? ⟨w5.heap.size, 0, none⟩ = some (.int .i64 2023) := by rw [← hw6]; exact (Blk.new w5 23 #[.int .i64 2023, .int .i64 1, .int .i64 1]).cell 0
  have k7 : w6.cell? ⟨w5.heap.size, 1, none⟩ = some (.int .i64 1) := by rw [← hw6]; exact (Blk.new w5 23 #[.int .i64 2023, .int .i64 1, .int .i64 1]).cell 1
  have k8 : w6.cell? ⟨w5.heap.size, 2, none⟩ = some (.int .i64 1) := by rw [← hw6]; exact (Blk.new w5 23 #[.int .i64 2023, .int .i64 1, .int .i64 1]).cell 2
  clear hw6
  refine (weekday_in 738521 _ (by decide) (by decide)).mono ?_
  rintro e w7 ⟨rfl, rfl⟩
  rw [show ((738521 : Int) + 6) % 7 = 6 from by decide]
  have H6 := HA
  clear HA
  go_wp2_with fail
  refine (day_in 2021 1 3 _ (right_of (by decide +kernel))).mono ?_
  rintro e w7 ⟨rfl, hb⟩
  rw [show numI 2021 1 3 = 737793 from by decide +kernel]
  have H7 : Held (Below W0 w w7) := ⟨H6.out.trans (hb.mono (by first | exact Nat.le_of_eq hW0.symm | (have := H6.out.size; rw [hW0] at this; exact this)))⟩
  clear hb H6
  go_wp2_with fail
  refine (week_in 737793 _ (by decide) (by decide)).mono ?_
  rintro e w8 ⟨y, m, d, rfl, hR, hN, hb⟩
  obtain rfl := shown_week hR shown_th hN
  rw [shown_th, shown_ys, show ((737790 : Int) - (737424 + 1)) / 7 + 1 = 53 from by decide]
  have H8 : Held (Below W0 w w8) := ⟨H7.out.trans (hb.mono (by first | exact Nat.le_of_eq hW0.symm | (have := H7.out.size; rw [hW0] at this; exact this)))⟩
  clear hb H7
  clear hR hN
  go_wp2_with fail
  refine (Easter_in 2024 _ (by decide) (by decide)).mono ?_
  rintro e w9 ⟨rfl, hb⟩
  rw [shown_ea]
  have H9 : Held (Below W0 w w9) := ⟨H8.out.trans (hb.mono (by first | exact Nat.le_of_eq hW0.symm | (have := H8.out.size; rw [hW0] at this; exact this)))⟩
  clear hb H8
  go_wp2_with fail
  refine (day_in 2024 3 31 _ (right_of (by decide +kernel))).mono ?_
  rintro e w10 ⟨rfl, hb⟩
  rw [show numI 2024 3 31 = 738976 from by decide +kernel]
  have H10 : Held (Below W0 w w10) := ⟨H9.out.trans (hb.mono (by first | exact Nat.le_of_eq hW0.symm | (have := H9.out.size; rw [hW0] at this; exact this)))⟩
  clear hb H9
  go_wp2_with fail
  refine (day_in 2024 1 31 _ (right_of (by decide +kernel))).mono ?_
  rintro e w11 ⟨rfl, hb⟩
  rw [show numI 2024 1 31 = 738916 from by decide +kernel]
  have H11 : Held (Below W0 w w11) := ⟨H10.out.trans (hb.mono (by first | exact Nat.le_of_eq hW0.symm | (have := H10.out.size; rw [hW0] at this; exact this)))⟩
  clear hb H10
  go_wp2_with fail
  refine (months_any 738916 1 2024 1 31 _ (right_of (by decide +kernel)) (by decide +kernel) (by decide) (by decide)).mono ?_
  rintro e w12 ⟨hb, he⟩
  rw [if_neg (by decide), shown_mo] at he
  subst he
  have H12 : Held (Below W0 w w12) := ⟨H11.out.trans (hb.mono (by first | exact Nat.le_of_eq hW0.symm | (have := H11.out.size; rw [hW0] at this; exact this)))⟩
  clear hb H11
  go_wp2_with fail
  refine (day_in 2024 1 15 _ (right_of (by decide +kernel))).mono ?_
  rintro e w13 ⟨rfl, hb⟩
  rw [show numI 2024 1 15 = 738900 from by decide +kernel]
  have H13 : Held (Below W0 w w13) := ⟨H12.out.trans (hb.mono (by first | exact Nat.le_of_eq hW0.symm | (have := H12.out.size; rw [hW0] at this; exact this)))⟩
  clear hb H12
  go_wp2_with fail
  refine (day_in 2024 3 31 _ (right_of (by decide +kernel))).mono ?_
  rintro e w14 ⟨rfl, hb⟩
  rw [show numI 2024 3 31 = 738976 from by decide +kernel]
  have H14 : Held (Below W0 w w14) := ⟨H13.out.trans (hb.mono (by first | exact Nat.le_of_eq hW0.symm | (have := H13.out.size; rw [hW0] at this; exact this)))⟩
  clear hb H13
  go_wp2_with fail
  refine (fraction_shown _).mono ?_
  rintro e w15 ⟨rfl, hb⟩
  have H15 : Held (Below W0 w w15) := ⟨H14.out.trans (hb.mono (by first | exact Nat.le_of_eq hW0.symm | (have := H14.out.size; rw [hW0] at this; exact this)))⟩
  clear hb H14
  go_wp2_with fail
  refine (day_in 2024 2 29 _ (right_of (by decide +kernel))).mono ?_
  rintro e w16 ⟨rfl, hb⟩
  rw [show numI 2024 2 29 = 738945 from by decide +kernel]
  have H16 : Held (Below W0 w w16) := ⟨H15.out.trans (hb.mono (by first | exact Nat.le_of_eq hW0.symm | (have := H15.out.size; rw [hW0] at this; exact this)))⟩
  clear hb H15
  go_wp2_with fail
  refine (target_in 2024 2024 _ (by decide) (by decide) (by decide)).mono ?_
  rintro e w17 ⟨g, b, rfl, hg, hbb, hC, hb⟩
  rw [lT_eq] at hC
  rw [show [false, false, false, false, false, true, true] = wkT from rfl] at hC
  have H17 : Held (Below W0 w w17) := ⟨H16.out.trans (hb.mono (by first | exact Nat.le_of_eq hW0.symm | (have := H16.out.size; rw [hW0] at this; exact this)))⟩
  clear hb H16
  have C17 := Held.mk hC
  clear hC hg hbb
  go_wp2_with fail
  refine (day_in 2024 3 28 _ (right_of (by decide +kernel))).mono ?_
  rintro e w18 ⟨rfl, hb⟩
  rw [show numI 2024 3 28 = 738973 from by decide +kernel]
  have H18 : Held (Below W0 w w18) := ⟨H17.out.trans (hb.mono (by first | exact Nat.le_of_eq hW0.symm | (have := H17.out.size; rw [hW0] at this; exact this)))⟩
  have C18 := Held.mk (C17.out.below hb)
  clear hb H17 C17
  go_wp2_with fail
  refine (add_any g b wkT lT 738973 1 _ C18.out ⟨by decide, by decide⟩).mono ?_
  rintro e w19 (⟨y, rfl, hy, hb⟩ | ⟨rfl, hy, hb⟩)
  rotate_left
  · have := shown_add hy
    cases this
  obtain rfl : y = 738978 := by have := shown_add hy; injection this
  clear hy
  have H19 : Held (Below W0 w w19) := ⟨H18.out.trans (hb.mono (by first | exact Nat.le_of_eq hW0.symm | (have := H18.out.size; rw [hW0] at this; exact this)))⟩
  have C19 := Held.mk (C18.out.below hb)
  clear hb H18 C18
  go_wp2_with fail
  refine (day_in 2024 3 31 _ (right_of (by decide +kernel))).mono ?_
  rintro e w20 ⟨rfl, hb⟩
  rw [show numI 2024 3 31 = 738976 from by decide +kernel]
  have H20 : Held (Below W0 w w20) := ⟨H19.out.trans (hb.mono (by first | exact Nat.le_of_eq hW0.symm | (have := H19.out.size; rw [hW0] at this; exact this)))⟩
  have C20 := Held.mk (C19.out.below hb)
  clear hb H19 C19
  go_wp2_with fail
  refine (adjust_any g b wkT lT 738976 1 _ C20.out (by decide) (by decide)).mono ?_
  intro e w21 ha
  obtain ⟨rfl, hb⟩ := shown_adj ha
  clear ha
  have H21 : Held (Below W0 w w21) := ⟨H20.out.trans (hb.mono (by first | exact Nat.le_of_eq hW0.symm | (have := H20.out.size; rw [hW0] at this; exact this)))⟩
  have C21 := Held.mk (C20.out.below hb)
  clear hb H20 C20
  go_wp2_with fail
  refine (day_in 2024 3 25 _ (right_of (by decide +kernel))).mono ?_
  rintro e w22 ⟨rfl, hb⟩
  rw [show numI 2024 3 25 = 738970 from by decide +kernel]
  have H22 : Held (Below W0 w w22) := ⟨H21.out.trans (hb.mono (by first | exact Nat.le_of_eq hW0.symm | (have := H21.out.size; rw [hW0] at this; exact this)))⟩
  have C22 := Held.mk (C21.out.below hb)
  clear hb H21 C21
  go_wp2_with fail
  refine (day_in 2024 4 8 _ (right_of (by decide +kernel))).mono ?_
  rintro e w23 ⟨rfl, hb⟩
  rw [show numI 2024 4 8 = 738984 from by decide +kernel]
  have H23 : Held (Below W0 w w23) := ⟨H22.out.trans (hb.mono (by first | exact Nat.le_of_eq hW0.symm | (have := H22.out.size; rw [hW0] at this; exact this)))⟩
  have C23 := Held.mk (C22.out.below hb)
  clear hb H22 C22
  go_wp2_with fail
  refine (count_in g b wkT lT 738970 738984 _ C23.out (by decide) (by decide) (by decide)).mono ?_
  rintro e w24 ⟨rfl, hb⟩
  rw [shown_count]
  have H24 : Held (Below W0 w w24) := ⟨H23.out.trans (hb.mono (by first | exact Nat.le_of_eq hW0.symm | (have := H23.out.size; rw [hW0] at this; exact this)))⟩
  have C24 := Held.mk (C23.out.below hb)
  clear hb H23 C23
  go_wp2_with fail
  refine (day_in 2024 4 2 _ (right_of (by decide +kernel))).mono ?_
  rintro e w25 ⟨rfl, hb⟩
  rw [show numI 2024 4 2 = 738978 from by decide +kernel]
  have H25 : Held (Below W0 w w25) := ⟨H24.out.trans (hb.mono (by first | exact Nat.le_of_eq hW0.symm | (have := H24.out.size; rw [hW0] at this; exact this)))⟩
  have C25 := Held.mk (C24.out.below hb)
  clear hb H24 C24
  go_wp2_with fail
  refine (day_in 2024 3 28 _ (right_of (by decide +kernel))).mono ?_
  rintro e w26 ⟨rfl, hb⟩
  rw [show numI 2024 3 28 = 738973 from by decide +kernel]
  have H26 : Held (Below W0 w w26) := ⟨H25.out.trans (hb.mono (by first | exact Nat.le_of_eq hW0.symm | (have := H25.out.size; rw [hW0] at this; exact this)))⟩
  have C26 := Held.mk (C25.out.below hb)
  clear hb H25 C25
  go_wp2_with fail
  refine (day_in 2024 4 2 _ (right_of (by decide +kernel))).mono ?_
  rintro e w27 ⟨rfl, hb⟩
  rw [show numI 2024 4 2 = 738978 from by decide +kernel]
  have H27 : Held (Below W0 w w27) := ⟨H26.out.trans (hb.mono (by first | exact Nat.le_of_eq hW0.symm | (have := H26.out.size; rw [hW0] at this; exact this)))⟩
  have C27 := Held.mk (C26.out.below hb)
  clear hb H26 C26
  go_wp2_with fail
  refine (business_any g b wkT lT 738978 _ C27.out).mono ?_
  rintro e w28 ⟨rfl, hb⟩
  rw [show busB wkT lT 738978 = true from by decide +kernel]
  have H28 : Held (Below W0 w w28) := ⟨H27.out.trans (hb.mono (by first | exact Nat.le_of_eq hW0.symm | (have := H27.out.size; rw [hW0] at this; exact this)))⟩
  have C28 := Held.mk (C27.out.below hb)
  clear hb H27 C27
  go_wp2_with fail
  refine (day_in 2024 4 1 _ (right_of (by decide +kernel))).mono ?_
  rintro e w29 ⟨rfl, hb⟩
  rw [show numI 2024 4 1 = 738977 from by decide +kernel]
  have H29 : Held (Below W0 w w29) := ⟨H28.out.trans (hb.mono (by first | exact Nat.le_of_eq hW0.symm | (have := H28.out.size; rw [hW0] at this; exact this)))⟩
  have C29 := Held.mk (C28.out.below hb)
  clear hb H28 C28
  go_wp2_with fail
  refine (business_any g b wkT lT 738977 _ C29.out).mono ?_
  rintro e w30 ⟨rfl, hb⟩
  rw [show busB wkT lT 738977 = false from by decide +kernel]
  have H30 : Held (Below W0 w w30) := ⟨H29.out.trans (hb.mono (by first | exact Nat.le_of_eq hW0.symm | (have := H29.out.size; rw [hW0] at this; exact this)))⟩
  have C30 := Held.mk (C29.out.below hb)
  clear hb H29 C29
  go_wp2
  go_ret
  exact ⟨rfl, H30.out⟩
end Cal
end Go.Proofs.YtlnkdgjlbpldpaaDoor
