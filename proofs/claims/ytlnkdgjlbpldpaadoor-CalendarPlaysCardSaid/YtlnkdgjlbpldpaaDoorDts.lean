/- CalendarDates: the walk. -/
import Derived.Test.YtlnkdgjlbpldpaaDoorRef
import Derived.Test.YtlnkdgjlbpldpaaDoorErP
namespace Go.Proofs.YtlnkdgjlbpldpaaDoor
set_option linter.unusedVariables false
set_option linter.unusedSimpArgs false
namespace Cal
open Go.RowKit Mem Go.Proofs.YtlnkdgjlbpldpaaDoorW.PrintLast Err

theorem number_no (y m d : Int) (w : World) (h : ¬ Right y m d) : Calls Tryd.prog 7 #[Dt y m d] w fun e w' => e = .returned (.tuple #[.int .i64 0, noDayV]) ∧ Below w.heap.size w w' := by
  by_cases hr : 1 ≤ y ∧ y ≤ 9999 ∧ 1 ≤ m ∧ m ≤ 12 ∧ 1 ≤ d
  · exact number_call y m d _ w _ hr.1 hr.2.1 hr.2.2.1 hr.2.2.2.1 hr.2.2.2.2 rfl (fun _ w' hb => ⟨rfl, hb⟩) (fun hl => absurd (⟨hr.1, hr.2.1, hr.2.2.1, hr.2.2.2.1, hr.2.2.2.2, hl⟩ : Right y m d) h)
  · exact number_far y m d w hr
/-- Plain of the calendar's error. -/
theorem plain_noDay (w : World) (hg : Laid w) : Calls Tryd.prog 9 #[noDayV, .int .i64 8] w fun e w' => e = .returned (.bool true) ∧ Below w.heap.size w w' :=
  plain_err _ _ 8 8 w (isErr_wrong ⟨#[99, 97, 108, 101, 110, 100, 97, 114]⟩ 8) (by decide) (by decide) hg
theorem plain_errDate (w : World) (hg : Laid w) : Calls Tryd.prog 9 #[errDateV, .int .i64 8] w fun e w' => e = .returned (.bool true) ∧ Below w.heap.size w w' :=
  plain_err _ _ 8 8 w (isErr_errno 8) (by decide) (by decide) hg
theorem plain_ok (w : World) : Calls Tryd.prog 9 #[.nilIface, .int .i64 0] w fun e w' => e = .returned (.bool true) ∧ Below w.heap.size w w' := plain_nil 0 w
set_option maxHeartbeats 16000000 in
set_option maxRecDepth 1000000 in
theorem dates_any (y m d n : Int) (w : World) (hg : Laid w) : Calls Tryd.prog 3 #[.agg #[.int .i64 y, .int .i64 m, .int .i64 d], .int .i64 n] w fun e w' => e = .returned (.bool true) ∧ Below w.heap.size w w' := by
  have HB0 : Held (Below w.heap.size w (w.alloc (.cells #[.int .i64 y, .int .i64 m, .int .i64 d] 23))) := ⟨(Below.refl _ _).alloc (Nat.le_refl _) _⟩
  have HN0 := Held.mk (Blk.new w 23 #[.int .i64 y, .int .i64 m, .int .i64 d])
  have HG0 := Held.mk (hg.below HB0.out)
  clear hg
  have pN := plain_noDay
  have pE := plain_errDate
  have pO := plain_ok
  unfold noDayV at pN
  unfold errDateV at pE
  have HPN := Held.mk pN
  have HPE := Held.mk pE
  have HPO := Held.mk pO
  clear pN pE pO
  generalize hW0 : w.heap.size = W0 at *
  have HW0 := Held.mk hW0
  clear hW0
  go_enter Tryd.func3, Tryd.ntmps3
  go_wp2_with fail
  generalize w.alloc (.cells #[.int .i64 y, .int .i64 m, .int .i64 d] 23) = x0 at *
  rw [HW0.out]
  by_cases hR : Right y m d
  · have HR := Held.mk hR
    clear hR
    refine (number_in y m d x0 HR.out).mono ?_
    rintro e x1 ⟨rfl, hb⟩
    have HB1 : Held (Below W0 w x1) := ⟨HB0.out.trans (hb.mono (by have := HB0.out.size; rw [HW0.out] at this; exact this))⟩
    have HG1 := Held.mk (HG0.out.below hb)
    have HN1 := Held.mk (HN0.out.keep (Keep.of_below hb (fun _ => False)) (fun h => h))
    clear hb HB0 HG0 HN0
    have k0 := HN1.out.cell 0
    have k1 := HN1.out.cell 1
    have k2 := HN1.out.cell 2
    simp at k0 k1 k2
    go_wp2_with fail
    refine (rNumber_in y m d x1 HR.out).mono ?_
    rintro e x2 ⟨rfl, hb⟩
    have HB2 : Held (Below W0 w x2) := ⟨HB1.out.trans (hb.mono (by have := HB1.out.size; rw [HW0.out] at this; exact this))⟩
    have HG2 := Held.mk (HG1.out.below hb)
    have HN2 := Held.mk (HN1.out.keep (Keep.of_below hb (fun _ => False)) (fun h => h))
    clear hb HB1 HG1 HN1
    clear k0 k1 k2
    go_wp2_with fail
    refine (HPO.out x2).mono ?_
    rintro e x3 ⟨rfl, hb⟩
    have HB3 : Held (Below W0 w x3) := ⟨HB2.out.trans (hb.mono (by have := HB2.out.size; rw [HW0.out] at this; exact this))⟩
    have HG3 := Held.mk (HG2.out.below hb)
    clear hb HB2 HG2
    by_cases hn : 1 ≤ n ∧ n ≤ 3652059
    · obtain ⟨hn1, hn2⟩ := hn
      go_wp2_with fail
      refine (of_in n x3 hn1 hn2).mono ?_
      rintro e x4 ⟨y1, m1, d1, rfl, hR1, hN1, hb⟩
      have HB4 : Held (Below W0 w x4) := ⟨HB3.out.trans (hb.mono (by have := HB3.out.size; rw [HW0.out] at this; exact this))⟩
      have HG4 := Held.mk (HG3.out.below hb)
      clear hb HB3 HG3
      unfold Dt
      have HR1 := Held.mk hR1
      have HE1 := Held.mk hN1
      clear hR1 hN1
      have HB5 : Held (Below W0 w (x4.alloc (.cells #[.int .i64 y1, .int .i64 m1, .int .i64 d1] 23))) := ⟨HB4.out.alloc (by have := HB4.out.size; rw [HW0.out] at this; exact this) _⟩
      have HM5 := Held.mk (Blk.new x4 23 #[.int .i64 y1, .int .i64 m1, .int .i64 d1])
      have HG5 := Held.mk (HG4.out.below ((Below.refl x4.heap.size x4).alloc (Nat.le_refl _) (.cells #[.int .i64 y1, .int .i64 m1, .int .i64 d1] 23)))
      go_wp2_with fail
      generalize x4.alloc (.cells #[.int .i64 y1, .int .i64 m1, .int .i64 d1] 23) = x5 at *
      generalize x4.heap.size = g4 at *
      refine (rOf_in n x5 hn1 hn2).mono ?_
      rintro e x6 ⟨y2, m2, d2, rfl, hR2, hN2, hb⟩
      obtain ⟨rfl, rfl, rfl⟩ := hR2.inj HR1.out (by rw [hN2, HE1.out])
      have HB6 : Held (Below W0 w x6) := ⟨HB5.out.trans (hb.mono (by have := HB5.out.size; rw [HW0.out] at this; exact this))⟩
      have HG6 := Held.mk (HG5.out.below hb)
      have HM6 := Held.mk (HM5.out.keep (Keep.of_below hb (fun _ => False)) (fun h => h))
      clear hb HB5 HG5 HM5 HB4 HG4
      unfold Dt
      have HB7 : Held (Below W0 w (x6.alloc (.cells #[.int .i64 y2, .int .i64 m2, .int .i64 d2] 23))) := ⟨HB6.out.alloc (by have := HB6.out.size; rw [HW0.out] at this; exact this) _⟩
      have HG7 := Held.mk (HG6.out.below ((Below.refl x6.heap.size x6).alloc (Nat.le_refl _) (.cells #[.int .i64 y2, .int .i64 m2, .int .i64 d2] 23)))
      have HM7 := Held.mk (HM6.out.alloc (.cells #[.int .i64 y2, .int .i64 m2, .int .i64 d2] 23))
      have k0 : (x6.alloc (.cells #[.int .i64 y2, .int .i64 m2, .int .i64 d2] 23)).cell? ⟨g4, 0, none⟩ = some (.int .i64 y2) := HM7.out.cell 0
      have k1 : (x6.alloc (.cells #[.int .i64 y2, .int .i64 m2, .int .i64 d2] 23)).cell? ⟨g4, 1, none⟩ = some (.int .i64 m2) := HM7.out.cell 1
      have k2 : (x6.alloc (.cells #[.int .i64 y2, .int .i64 m2, .int .i64 d2] 23)).cell? ⟨g4, 2, none⟩ = some (.int .i64 d2) := HM7.out.cell 2
      go_wp2_with fail
      generalize x6.alloc (.cells #[.int .i64 y2, .int .i64 m2, .int .i64 d2] 23) = x7 at *
      clear k0 k1 k2 HM7 HM6
      refine (HPO.out x7).mono ?_
      rintro e x8 ⟨rfl, hb⟩
      have HB8 : Held (Below W0 w x8) := ⟨HB7.out.trans (hb.mono (by have := HB7.out.size; rw [HW0.out] at this; exact this))⟩
      have HG8 := Held.mk (HG7.out.below hb)
      clear hb HB7 HG7
      go_wp2_with fail
      refine (weekday_in n x8 hn1 hn2).mono ?_
      rintro e xq ⟨rfl, rfl⟩
      go_wp2_with fail
      refine (rWeekday_in n x8 hn1 hn2).mono ?_
      rintro e xq ⟨rfl, rfl⟩
      go_wp2_with fail
      refine (HPO.out x8).mono ?_
      rintro e x9 ⟨rfl, hb⟩
      have HB9 : Held (Below W0 w x9) := ⟨HB8.out.trans (hb.mono (by have := HB8.out.size; rw [HW0.out] at this; exact this))⟩
      have HG9 := Held.mk (HG8.out.below hb)
      clear hb HB8 HG8
      go_wp2_with fail
      refine (week_in n x9 hn1 hn2).mono ?_
      rintro e x10 ⟨y3, m3, d3, rfl, hR3, hN3, hb⟩
      have HB10 : Held (Below W0 w x10) := ⟨HB9.out.trans (hb.mono (by have := HB9.out.size; rw [HW0.out] at this; exact this))⟩
      have HG10 := Held.mk (HG9.out.below hb)
      clear hb HB9 HG9
      have HR3 := Held.mk hR3
      have HE3 := Held.mk hN3
      clear hR3 hN3
      go_wp2_with fail
      refine (rWeek_in n x10 hn1 hn2).mono ?_
      rintro e x11 ⟨y4, m4, d4, rfl, hR4, hN4, hb⟩
      have HB11 : Held (Below W0 w x11) := ⟨HB10.out.trans (hb.mono (by have := HB10.out.size; rw [HW0.out] at this; exact this))⟩
      have HG11 := Held.mk (HG10.out.below hb)
      clear hb HB10 HG10
      obtain ⟨rfl, rfl, rfl⟩ := hR4.inj HR3.out (by rw [hN4, HE3.out])
      clear hR4 hN4
      generalize (thI n - (ysI y4 + 1)) / 7 + 1 = wk at *
      go_wp2_with fail
      refine (HPO.out x11).mono ?_
      rintro e x12 ⟨rfl, hb⟩
      have HB12 : Held (Below W0 w x12) := ⟨HB11.out.trans (hb.mono (by have := HB11.out.size; rw [HW0.out] at this; exact this))⟩
      have HG12 := Held.mk (HG11.out.below hb)
      clear hb HB11 HG11
      go_wp2
      go_ret
      exact ⟨rfl, HB12.out⟩
    · have Hn := Held.mk hn
      clear hn
      go_wp2_with fail
      refine (of_out n x3 Hn.out).mono ?_
      rintro e x4 ⟨rfl, hb⟩
      have HB4 : Held (Below W0 w x4) := ⟨HB3.out.trans (hb.mono (by have := HB3.out.size; rw [HW0.out] at this; exact this))⟩
      have HG4 := Held.mk (HG3.out.below hb)
      clear hb HB3 HG3
      unfold Dt
      unfold errDateV
      have HB5 : Held (Below W0 w (x4.alloc (.cells #[.int .i64 0, .int .i64 0, .int .i64 0] 23))) := ⟨HB4.out.alloc (by have := HB4.out.size; rw [HW0.out] at this; exact this) _⟩
      have HM5 := Held.mk (Blk.new x4 23 #[.int .i64 0, .int .i64 0, .int .i64 0])
      have HG5 := Held.mk (HG4.out.below ((Below.refl x4.heap.size x4).alloc (Nat.le_refl _) (.cells #[.int .i64 0, .int .i64 0, .int .i64 0] 23)))
      go_wp2_with fail
      generalize x4.alloc (.cells #[.int .i64 0, .int .i64 0, .int .i64 0] 23) = x5 at *
      generalize x4.heap.size = g4 at *
      refine (rOf_out n x5 Hn.out).mono ?_
      rintro e x6 ⟨rfl, hb⟩
      have HB6 : Held (Below W0 w x6) := ⟨HB5.out.trans (hb.mono (by have := HB5.out.size; rw [HW0.out] at this; exact this))⟩
      have HG6 := Held.mk (HG5.out.below hb)
      have HM6 := Held.mk (HM5.out.keep (Keep.of_below hb (fun _ => False)) (fun h => h))
      clear hb HB5 HG5 HM5 HB4 HG4
      unfold Dt
      have HB7 : Held (Below W0 w (x6.alloc (.cells #[.int .i64 0, .int .i64 0, .int .i64 0] 23))) := ⟨HB6.out.alloc (by have := HB6.out.size; rw [HW0.out] at this; exact this) _⟩
      have HG7 := Held.mk (HG6.out.below ((Below.refl x6.heap.size x6).alloc (Nat.le_refl _) (.cells #[.int .i64 0, .int .i64 0, .int .i64 0] 23)))
      have HM7 := Held.mk (HM6.out.alloc (.cells #[.int .i64 0, .int .i64 0, .int .i64 0] 23))
      have k0 : (x6.alloc (.cells #[.int .i64 0, .int .i64 0, .int .i64 0] 23)).cell? ⟨g4, 0, none⟩ = some (.int .i64 0) := HM7.out.cell 0
      have k1 : (x6.alloc (.cells #[.int .i64 0, .int .i64 0, .int .i64 0] 23)).cell? ⟨g4, 1, none⟩ = some (.int .i64 0) := HM7.out.cell 1
      have k2 : (x6.alloc (.cells #[.int .i64 0, .int .i64 0, .int .i64 0] 23)).cell? ⟨g4, 2, none⟩ = some (.int .i64 0) := HM7.out.cell 2
      go_wp2_with fail
      generalize x6.alloc (.cells #[.int .i64 0, .int .i64 0, .int .i64 0] 23) = x7 at *
      clear k0 k1 k2 HM7 HM6
      refine (HPE.out x7 HG7.out).mono ?_
      rintro e x8 ⟨rfl, hb⟩
      have HB8 : Held (Below W0 w x8) := ⟨HB7.out.trans (hb.mono (by have := HB7.out.size; rw [HW0.out] at this; exact this))⟩
      have HG8 := Held.mk (HG7.out.below hb)
      clear hb HB7 HG7
      go_wp2_with fail
      refine (weekday_out n x8 Hn.out).mono ?_
      rintro e xq ⟨rfl, rfl⟩
      unfold noDayV
      go_wp2_with fail
      refine (rWeekday_out n x8 Hn.out).mono ?_
      rintro e xq ⟨rfl, rfl⟩
      go_wp2_with fail
      refine (HPN.out x8 HG8.out).mono ?_
      rintro e x9 ⟨rfl, hb⟩
      have HB9 : Held (Below W0 w x9) := ⟨HB8.out.trans (hb.mono (by have := HB8.out.size; rw [HW0.out] at this; exact this))⟩
      have HG9 := Held.mk (HG8.out.below hb)
      clear hb HB8 HG8
      go_wp2_with fail
      refine (week_out n x9 Hn.out).mono ?_
      rintro e xq ⟨rfl, rfl⟩
      unfold noDayV
      go_wp2_with fail
      refine (rWeek_out n x9 Hn.out).mono ?_
      rintro e xq ⟨rfl, rfl⟩
      go_wp2_with fail
      refine (HPN.out x9 HG9.out).mono ?_
      rintro e x10 ⟨rfl, hb⟩
      have HB10 : Held (Below W0 w x10) := ⟨HB9.out.trans (hb.mono (by have := HB9.out.size; rw [HW0.out] at this; exact this))⟩
      have HG10 := Held.mk (HG9.out.below hb)
      clear hb HB9 HG9
      go_wp2
      go_ret
      exact ⟨rfl, HB10.out⟩
  · have HR := Held.mk hR
    clear hR
    refine (number_no y m d x0 HR.out).mono ?_
    rintro e x1 ⟨rfl, hb⟩
    have HB1 : Held (Below W0 w x1) := ⟨HB0.out.trans (hb.mono (by have := HB0.out.size; rw [HW0.out] at this; exact this))⟩
    have HG1 := Held.mk (HG0.out.below hb)
    have HN1 := Held.mk (HN0.out.keep (Keep.of_below hb (fun _ => False)) (fun h => h))
    clear hb HB0 HG0 HN0
    unfold noDayV
    have k0 := HN1.out.cell 0
    have k1 := HN1.out.cell 1
    have k2 := HN1.out.cell 2
    simp at k0 k1 k2
    go_wp2_with fail
    refine (rNumber_no y m d x1 HR.out).mono ?_
    rintro e x2 ⟨rfl, hb⟩
    have HB2 : Held (Below W0 w x2) := ⟨HB1.out.trans (hb.mono (by have := HB1.out.size; rw [HW0.out] at this; exact this))⟩
    have HG2 := Held.mk (HG1.out.below hb)
    have HN2 := Held.mk (HN1.out.keep (Keep.of_below hb (fun _ => False)) (fun h => h))
    clear hb HB1 HG1 HN1
    clear k0 k1 k2
    go_wp2_with fail
    refine (HPN.out x2 HG2.out).mono ?_
    rintro e x3 ⟨rfl, hb⟩
    have HB3 : Held (Below W0 w x3) := ⟨HB2.out.trans (hb.mono (by have := HB2.out.size; rw [HW0.out] at this; exact this))⟩
    have HG3 := Held.mk (HG2.out.below hb)
    clear hb HB2 HG2
    by_cases hn : 1 ≤ n ∧ n ≤ 3652059
    · obtain ⟨hn1, hn2⟩ := hn
      go_wp2_with fail
      refine (of_in n x3 hn1 hn2).mono ?_
      rintro e x4 ⟨y1, m1, d1, rfl, hR1, hN1, hb⟩
      have HB4 : Held (Below W0 w x4) := ⟨HB3.out.trans (hb.mono (by have := HB3.out.size; rw [HW0.out] at this; exact this))⟩
      have HG4 := Held.mk (HG3.out.below hb)
      clear hb HB3 HG3
      unfold Dt
      have HR1 := Held.mk hR1
      have HE1 := Held.mk hN1
      clear hR1 hN1
      have HB5 : Held (Below W0 w (x4.alloc (.cells #[.int .i64 y1, .int .i64 m1, .int .i64 d1] 23))) := ⟨HB4.out.alloc (by have := HB4.out.size; rw [HW0.out] at this; exact this) _⟩
      have HM5 := Held.mk (Blk.new x4 23 #[.int .i64 y1, .int .i64 m1, .int .i64 d1])
      have HG5 := Held.mk (HG4.out.below ((Below.refl x4.heap.size x4).alloc (Nat.le_refl _) (.cells #[.int .i64 y1, .int .i64 m1, .int .i64 d1] 23)))
      go_wp2_with fail
      generalize x4.alloc (.cells #[.int .i64 y1, .int .i64 m1, .int .i64 d1] 23) = x5 at *
      generalize x4.heap.size = g4 at *
      refine (rOf_in n x5 hn1 hn2).mono ?_
      rintro e x6 ⟨y2, m2, d2, rfl, hR2, hN2, hb⟩
      obtain ⟨rfl, rfl, rfl⟩ := hR2.inj HR1.out (by rw [hN2, HE1.out])
      have HB6 : Held (Below W0 w x6) := ⟨HB5.out.trans (hb.mono (by have := HB5.out.size; rw [HW0.out] at this; exact this))⟩
      have HG6 := Held.mk (HG5.out.below hb)
      have HM6 := Held.mk (HM5.out.keep (Keep.of_below hb (fun _ => False)) (fun h => h))
      clear hb HB5 HG5 HM5 HB4 HG4
      unfold Dt
      have HB7 : Held (Below W0 w (x6.alloc (.cells #[.int .i64 y2, .int .i64 m2, .int .i64 d2] 23))) := ⟨HB6.out.alloc (by have := HB6.out.size; rw [HW0.out] at this; exact this) _⟩
      have HG7 := Held.mk (HG6.out.below ((Below.refl x6.heap.size x6).alloc (Nat.le_refl _) (.cells #[.int .i64 y2, .int .i64 m2, .int .i64 d2] 23)))
      have HM7 := Held.mk (HM6.out.alloc (.cells #[.int .i64 y2, .int .i64 m2, .int .i64 d2] 23))
      have k0 : (x6.alloc (.cells #[.int .i64 y2, .int .i64 m2, .int .i64 d2] 23)).cell? ⟨g4, 0, none⟩ = some (.int .i64 y2) := HM7.out.cell 0
      have k1 : (x6.alloc (.cells #[.int .i64 y2, .int .i64 m2, .int .i64 d2] 23)).cell? ⟨g4, 1, none⟩ = some (.int .i64 m2) := HM7.out.cell 1
      have k2 : (x6.alloc (.cells #[.int .i64 y2, .int .i64 m2, .int .i64 d2] 23)).cell? ⟨g4, 2, none⟩ = some (.int .i64 d2) := HM7.out.cell 2
      go_wp2_with fail
      generalize x6.alloc (.cells #[.int .i64 y2, .int .i64 m2, .int .i64 d2] 23) = x7 at *
      clear k0 k1 k2 HM7 HM6
      refine (HPO.out x7).mono ?_
      rintro e x8 ⟨rfl, hb⟩
      have HB8 : Held (Below W0 w x8) := ⟨HB7.out.trans (hb.mono (by have := HB7.out.size; rw [HW0.out] at this; exact this))⟩
      have HG8 := Held.mk (HG7.out.below hb)
      clear hb HB7 HG7
      go_wp2_with fail
      refine (weekday_in n x8 hn1 hn2).mono ?_
      rintro e xq ⟨rfl, rfl⟩
      go_wp2_with fail
      refine (rWeekday_in n x8 hn1 hn2).mono ?_
      rintro e xq ⟨rfl, rfl⟩
      go_wp2_with fail
      refine (HPO.out x8).mono ?_
      rintro e x9 ⟨rfl, hb⟩
      have HB9 : Held (Below W0 w x9) := ⟨HB8.out.trans (hb.mono (by have := HB8.out.size; rw [HW0.out] at this; exact this))⟩
      have HG9 := Held.mk (HG8.out.below hb)
      clear hb HB8 HG8
      go_wp2_with fail
      refine (week_in n x9 hn1 hn2).mono ?_
      rintro e x10 ⟨y3, m3, d3, rfl, hR3, hN3, hb⟩
      have HB10 : Held (Below W0 w x10) := ⟨HB9.out.trans (hb.mono (by have := HB9.out.size; rw [HW0.out] at this; exact this))⟩
      have HG10 := Held.mk (HG9.out.below hb)
      clear hb HB9 HG9
      have HR3 := Held.mk hR3
      have HE3 := Held.mk hN3
      clear hR3 hN3
      go_wp2_with fail
      refine (rWeek_in n x10 hn1 hn2).mono ?_
      rintro e x11 ⟨y4, m4, d4, rfl, hR4, hN4, hb⟩
      have HB11 : Held (Below W0 w x11) := ⟨HB10.out.trans (hb.mono (by have := HB10.out.size; rw [HW0.out] at this; exact this))⟩
      have HG11 := Held.mk (HG10.out.below hb)
      clear hb HB10 HG10
      obtain ⟨rfl, rfl, rfl⟩ := hR4.inj HR3.out (by rw [hN4, HE3.out])
      clear hR4 hN4
      generalize (thI n - (ysI y4 + 1)) / 7 + 1 = wk at *
      go_wp2_with fail
      refine (HPO.out x11).mono ?_
      rintro e x12 ⟨rfl, hb⟩
      have HB12 : Held (Below W0 w x12) := ⟨HB11.out.trans (hb.mono (by have := HB11.out.size; rw [HW0.out] at this; exact this))⟩
      have HG12 := Held.mk (HG11.out.below hb)
      clear hb HB11 HG11
      go_wp2
      go_ret
      exact ⟨rfl, HB12.out⟩
    · have Hn := Held.mk hn
      clear hn
      go_wp2_with fail
      refine (of_out n x3 Hn.out).mono ?_
      rintro e x4 ⟨rfl, hb⟩
      have HB4 : Held (Below W0 w x4) := ⟨HB3.out.trans (hb.mono (by have := HB3.out.size; rw [HW0.out] at this; exact this))⟩
      have HG4 := Held.mk (HG3.out.below hb)
      clear hb HB3 HG3
      unfold Dt
      unfold errDateV
      have HB5 : Held (Below W0 w (x4.alloc (.cells #[.int .i64 0, .int .i64 0, .int .i64 0] 23))) := ⟨HB4.out.alloc (by have := HB4.out.size; rw [HW0.out] at this; exact this) _⟩
      have HM5 := Held.mk (Blk.new x4 23 #[.int .i64 0, .int .i64 0, .int .i64 0])
      have HG5 := Held.mk (HG4.out.below ((Below.refl x4.heap.size x4).alloc (Nat.le_refl _) (.cells #[.int .i64 0, .int .i64 0, .int .i64 0] 23)))
      go_wp2_with fail
      generalize x4.alloc (.cells #[.int .i64 0, .int .i64 0, .int .i64 0] 23) = x5 at *
      generalize x4.heap.size = g4 at *
      refine (rOf_out n x5 Hn.out).mono ?_
      rintro e x6 ⟨rfl, hb⟩
      have HB6 : Held (Below W0 w x6) := ⟨HB5.out.trans (hb.mono (by have := HB5.out.size; rw [HW0.out] at this; exact this))⟩
      have HG6 := Held.mk (HG5.out.below hb)
      have HM6 := Held.mk (HM5.out.keep (Keep.of_below hb (fun _ => False)) (fun h => h))
      clear hb HB5 HG5 HM5 HB4 HG4
      unfold Dt
      have HB7 : Held (Below W0 w (x6.alloc (.cells #[.int .i64 0, .int .i64 0, .int .i64 0] 23))) := ⟨HB6.out.alloc (by have := HB6.out.size; rw [HW0.out] at this; exact this) _⟩
      have HG7 := Held.mk (HG6.out.below ((Below.refl x6.heap.size x6).alloc (Nat.le_refl _) (.cells #[.int .i64 0, .int .i64 0, .int .i64 0] 23)))
      have HM7 := Held.mk (HM6.out.alloc (.cells #[.int .i64 0, .int .i64 0, .int .i64 0] 23))
      have k0 : (x6.alloc (.cells #[.int .i64 0, .int .i64 0, .int .i64 0] 23)).cell? ⟨g4, 0, none⟩ = some (.int .i64 0) := HM7.out.cell 0
      have k1 : (x6.alloc (.cells #[.int .i64 0, .int .i64 0, .int .i64 0] 23)).cell? ⟨g4, 1, none⟩ = some (.int .i64 0) := HM7.out.cell 1
      have k2 : (x6.alloc (.cells #[.int .i64 0, .int .i64 0, .int .i64 0] 23)).cell? ⟨g4, 2, none⟩ = some (.int .i64 0) := HM7.out.cell 2
      go_wp2_with fail
      generalize x6.alloc (.cells #[.int .i64 0, .int .i64 0, .int .i64 0] 23) = x7 at *
      clear k0 k1 k2 HM7 HM6
      refine (HPE.out x7 HG7.out).mono ?_
      rintro e x8 ⟨rfl, hb⟩
      have HB8 : Held (Below W0 w x8) := ⟨HB7.out.trans (hb.mono (by have := HB7.out.size; rw [HW0.out] at this; exact this))⟩
      have HG8 := Held.mk (HG7.out.below hb)
      clear hb HB7 HG7
      go_wp2_with fail
      refine (weekday_out n x8 Hn.out).mono ?_
      rintro e xq ⟨rfl, rfl⟩
      unfold noDayV
      go_wp2_with fail
      refine (rWeekday_out n x8 Hn.out).mono ?_
      rintro e xq ⟨rfl, rfl⟩
      go_wp2_with fail
      refine (HPN.out x8 HG8.out).mono ?_
      rintro e x9 ⟨rfl, hb⟩
      have HB9 : Held (Below W0 w x9) := ⟨HB8.out.trans (hb.mono (by have := HB8.out.size; rw [HW0.out] at this; exact this))⟩
      have HG9 := Held.mk (HG8.out.below hb)
      clear hb HB8 HG8
      go_wp2_with fail
      refine (week_out n x9 Hn.out).mono ?_
      rintro e xq ⟨rfl, rfl⟩
      unfold noDayV
      go_wp2_with fail
      refine (rWeek_out n x9 Hn.out).mono ?_
      rintro e xq ⟨rfl, rfl⟩
      go_wp2_with fail
      refine (HPN.out x9 HG9.out).mono ?_
      rintro e x10 ⟨rfl, hb⟩
      have HB10 : Held (Below W0 w x10) := ⟨HB9.out.trans (hb.mono (by have := HB9.out.size; rw [HW0.out] at this; exact this))⟩
      have HG10 := Held.mk (HG9.out.below hb)
      clear hb HB9 HG9
      go_wp2
      go_ret
      exact ⟨rfl, HB10.out⟩
end Cal
end Go.Proofs.YtlnkdgjlbpldpaaDoor
