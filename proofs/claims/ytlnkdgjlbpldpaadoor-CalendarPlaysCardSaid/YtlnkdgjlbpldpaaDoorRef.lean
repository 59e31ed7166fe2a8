/- The document's answer for a day: Leap, yearDays, MonthDays, Right, Is, Number, Of, Weekday, Week. -/
import Derived.Test.YtlnkdgjlbpldpaaDoorWeek
namespace Go.Proofs.YtlnkdgjlbpldpaaDoor
set_option linter.unusedVariables false
set_option linter.unusedSimpArgs false
namespace Cal
open Go.RowKit Mem Go.Proofs.YtlnkdgjlbpldpaaDoorW.PrintLast

set_option maxHeartbeats 2000000 in
set_option maxRecDepth 100000 in
theorem rLeap_any (y : Int) (w : World) (h1 : 1 ≤ y) (h2 : y ≤ 20000) :
    Calls Tryd.prog 64 #[.int .i64 y] w fun e w' => e = .returned (.bool (leapB y)) ∧ w = w' := by
  go_enter Tryd.func64, Tryd.ntmps64
  go_wp2
  all_goals
    go_ret
    refine ⟨by congr 2; simp [leapB, *], rfl⟩
set_option maxHeartbeats 2000000 in
set_option maxRecDepth 100000 in
theorem rYear_any (y : Int) (w : World) (h1 : 1 ≤ y) (h2 : y ≤ 20000) :
    Calls Tryd.prog 35 #[.int .i64 y] w fun e w' => e = .returned (.int .i64 (365 + leapI y)) ∧ w = w' := by
  have HI : Held (leapI y = if leapB y then 1 else 0) := ⟨rfl⟩
  go_enter Tryd.func35, Tryd.ntmps35
  go_wp2_with fail
  refine (rLeap_any y w h1 h2).mono ?_
  rintro e w1 ⟨rfl, rfl⟩
  have HL : Held (leapB y = true ∨ leapB y = false) := ⟨by cases leapB y <;> simp⟩
  rcases HL.out with hl | hl
  · have Hl := Held.mk hl
    rw [hl]
    clear hl HL
    go_wp2
    go_ret
    exact ⟨by rw [HI.out, Hl.out]; rfl, rfl⟩
  · have Hl := Held.mk hl
    rw [hl]
    clear hl HL
    go_wp2
    go_ret
    exact ⟨by rw [HI.out, Hl.out]; rfl, rfl⟩
set_option maxHeartbeats 2000000 in
set_option maxRecDepth 100000 in
theorem rMonth_any (y m : Int) (w : World) (h1 : 1 ≤ y) (h2 : y ≤ 20000) (hm1 : 1 ≤ m) (hm2 : m ≤ 12) :
    Calls Tryd.prog 36 #[.int .i64 y, .int .i64 m] w fun e w' => e = .returned (.int .i64 (lengthI y m)) ∧ w = w' := by
  have hm : (m = 4 ∨ m = 6 ∨ m = 9 ∨ m = 11) ∨ (m = 1 ∨ m = 3 ∨ m = 5 ∨ m = 7 ∨ m = 8 ∨ m = 10 ∨ m = 12) ∨ m = 2 := by omega
  rcases hm with hm | hm | rfl
  · have H : Held (lengthI y m = 30) := ⟨by rcases hm with rfl | rfl | rfl | rfl <;> simp [lengthI, aheadI]⟩
    clear hm1 hm2
    rcases hm with rfl | rfl | rfl | rfl <;>
    · go_enter Tryd.func36, Tryd.ntmps36
      go_wp2
      go_ret
      exact ⟨by rw [H.out]; rfl, rfl⟩
  · have H : Held (lengthI y m = 31) := ⟨by rcases hm with rfl | rfl | rfl | rfl | rfl | rfl | rfl <;> simp [lengthI, aheadI]⟩
    clear hm1 hm2
    rcases hm with rfl | rfl | rfl | rfl | rfl | rfl | rfl <;>
    · go_enter Tryd.func36, Tryd.ntmps36
      go_wp2
      go_ret
      exact ⟨by rw [H.out]; rfl, rfl⟩
  · have H : Held (lengthI y 2 = 28 + leapI y) := ⟨by simp [lengthI, aheadI]⟩
    have HI : Held (leapI y = if leapB y then 1 else 0) := ⟨rfl⟩
    go_enter Tryd.func36, Tryd.ntmps36
    go_wp2_with fail
    refine (rLeap_any y w h1 h2).mono ?_
    rintro e w1 ⟨rfl, rfl⟩
    have HL : Held (leapB y = true ∨ leapB y = false) := ⟨by cases leapB y <;> simp⟩
    rcases HL.out with hl | hl
    · have Hl := Held.mk hl
      rw [hl]
      clear hl HL
      go_wp2
      go_ret
      exact ⟨by rw [H.out, HI.out, Hl.out]; rfl, rfl⟩
    · have Hl := Held.mk hl
      rw [hl]
      clear hl HL
      go_wp2
      go_ret
      exact ⟨by rw [H.out, HI.out, Hl.out]; rfl, rfl⟩
set_option maxHeartbeats 2000000 in
set_option maxRecDepth 100000 in
theorem rIs_any (n : Int) (w : World) :
    Calls Tryd.prog 41 #[.int .i64 n] w fun e w' => e = .returned (.bool (decide (1 ≤ n ∧ n ≤ 3652059))) ∧ w = w' := by
  go_enter Tryd.func41, Tryd.ntmps41
  go_wp2
  all_goals
    go_ret
    refine ⟨by congr 2; simp [*] <;> omega, rfl⟩
set_option maxHeartbeats 4000000 in
set_option maxRecDepth 100000 in
theorem rRight_call (y m d : Int) (w : World) (hy1 : 1 ≤ y) (hy2 : y ≤ 9999) (hm1 : 1 ≤ m) (hm2 : m ≤ 12) (hd1 : 1 ≤ d) :
    Calls Tryd.prog 34 #[.agg #[.int .i64 y, .int .i64 m, .int .i64 d]] w fun e w' => e = .returned (.bool (decide (d ≤ lengthI y m))) ∧ Below w.heap.size w w' := by
  have d0 : decide (1 ≤ y) = true := decide_eq_true hy1
  have d1 : decide (y ≤ 9999) = true := decide_eq_true hy2
  have d2 : decide (1 ≤ m) = true := decide_eq_true hm1
  have d3 : decide (m ≤ 12) = true := decide_eq_true hm2
  have d4 : decide (1 ≤ d) = true := decide_eq_true hd1
  obtain ⟨ln, hln⟩ : ∃ ln, lengthI y m = ln := ⟨_, rfl⟩
  rw [hln]
  have Hln := Held.mk hln
  clear hln
  go_enter Tryd.func34, Tryd.ntmps34
  go_wp2_with fail
  have hN := Blk.new w 23 #[.int .i64 y, .int .i64 m, .int .i64 d]
  have HB := Held.mk ((Below.refl w.heap.size w).alloc (Nat.le_refl _) (.cells #[.int .i64 y, .int .i64 m, .int .i64 d] 23))
  generalize w.alloc (.cells #[.int .i64 y, .int .i64 m, .int .i64 d] 23) = w1 at *
  generalize hg : w.heap.size = g at *
  have k0 := hN.cell 0
  have k1 := hN.cell 1
  have k2 := hN.cell 2
  simp at k0 k1 k2
  clear hN
  refine start_ (n := 34) (S := fun w' => w'.cell? ⟨g, 0, none⟩ = some (.int .i64 y) ∧ w'.cell? ⟨g, 1, none⟩ = some (.int .i64 m) ∧ w'.cell? ⟨g, 2, none⟩ = some (.int .i64 d)) (ds := []) #[false, false, false, false, false, false, false, false, false, false, false, false, false, false, false, false, false, false, false, false, false, false, false, false, false, false, false, false, false, false, false, false, false, false] (by kernel_rfl) rfl rfl ⟨k0, k1, k2⟩ (fun hHeld => ?_)
  refine pure_ (i := 0) (N := some 3) (v := ?_) (a' := ?_) #[true, false, false, false, false, false, false, false, false, false, false, false, false, false, false, false, false, false, false, false, false, false, false, false, false, false, false, false, false, false, false, false, false, false] rfl rfl (by kernel_rfl) (fun _ _ _ h => h) (Or.inl ⟨by rfl, ?_⟩) ?_ ?_
  rotate_left
  · intro w'
    go_simp
    with_reducible rfl
  rotate_left
  · simp only [Act.put, List.setIfInBounds_toArray, List.set_cons_zero, List.set_cons_succ, i64_w, i32_w]
    rfl
  refine take_ (i := 1) (N := some 4) (v := ?_) (a' := ?_) #[true, true, false, false, false, false, false, false, false, false, false, false, false, false, false, false, false, false, false, false, false, false, false, false, false, false, false, false, false, false, false, false, false, false] rfl rfl (by kernel_rfl) (fun _ _ _ h => h) (Or.inl ⟨by rfl, ?_⟩) hHeld ?_ ?_
  rotate_left
  · rintro w' ⟨s0, s1, s2⟩
    go_simp
    with_reducible rfl
  rotate_left
  · simp only [Act.put, List.setIfInBounds_toArray, List.set_cons_zero, List.set_cons_succ, i64_w, i32_w]
    rfl
  refine pure_ (i := 2) (N := some 5) (v := ?_) (a' := ?_) #[true, true, true, false, false, false, false, false, false, false, false, false, false, false, false, false, false, false, false, false, false, false, false, false, false, false, false, false, false, false, false, false, false, false] rfl rfl (by kernel_rfl) (fun _ _ _ h => h) (Or.inl ⟨by rfl, ?_⟩) ?_ ?_
  rotate_left
  · intro w'
    go_simp
    with_reducible rfl
  rotate_left
  · simp only [Act.put, List.setIfInBounds_toArray, List.set_cons_zero, List.set_cons_succ, i64_w, i32_w]
    rfl
  refine pure_ (i := 3) (N := some 6) (v := ?_) (a' := ?_) #[true, true, true, true, false, false, false, false, false, false, false, false, false, false, false, false, false, false, false, false, false, false, false, false, false, false, false, false, false, false, false, false, false, false] rfl rfl (by kernel_rfl) (fun _ _ _ h => h) (Or.inl ⟨by rfl, ?_⟩) ?_ ?_
  rotate_left
  · intro w'
    go_simp
    with_reducible rfl
  rotate_left
  · simp only [Act.put, List.setIfInBounds_toArray, List.set_cons_zero, List.set_cons_succ, i64_w, i32_w]
    rfl
  refine pure_ (i := 4) (N := some 7) (v := ?_) (a' := ?_) #[true, true, true, true, true, false, false, false, false, false, false, false, false, false, false, false, false, false, false, false, false, false, false, false, false, false, false, false, false, false, false, false, false, false] rfl rfl (by kernel_rfl) (fun _ _ _ h => h) (Or.inl ⟨by rfl, ?_⟩) ?_ ?_
  rotate_left
  · intro w'
    go_simp
    with_reducible rfl
  rotate_left
  · simp only [Act.put, List.setIfInBounds_toArray, List.set_cons_zero, List.set_cons_succ, i64_w, i32_w]
    rfl
  refine take_ (i := 5) (N := some 8) (v := ?_) (a' := ?_) #[true, true, true, true, true, true, false, false, false, false, false, false, false, false, false, false, false, false, false, false, false, false, false, false, false, false, false, false, false, false, false, false, false, false] rfl rfl (by kernel_rfl) (fun _ _ _ h => h) (Or.inl ⟨by rfl, ?_⟩) hHeld ?_ ?_
  rotate_left
  · rintro w' ⟨s0, s1, s2⟩
    go_simp
    with_reducible rfl
  rotate_left
  · simp only [Act.put, List.setIfInBounds_toArray, List.set_cons_zero, List.set_cons_succ, i64_w, i32_w]
    rfl
  refine pure_ (i := 6) (N := some 9) (v := ?_) (a' := ?_) #[true, true, true, true, true, true, true, false, false, false, false, false, false, false, false, false, false, false, false, false, false, false, false, false, false, false, false, false, false, false, false, false, false, false] rfl rfl (by kernel_rfl) (fun _ _ _ h => h) (Or.inl ⟨by rfl, ?_⟩) ?_ ?_
  rotate_left
  · intro w'
    go_simp
    with_reducible rfl
  rotate_left
  · simp only [Act.put, List.setIfInBounds_toArray, List.set_cons_zero, List.set_cons_succ, i64_w, i32_w]
    rfl
  refine pure_ (i := 7) (N := some 10) (v := ?_) (a' := ?_) #[true, true, true, true, true, true, true, true, false, false, false, false, false, false, false, false, false, false, false, false, false, false, false, false, false, false, false, false, false, false, false, false, false, false] rfl rfl (by kernel_rfl) (fun _ _ _ h => h) (Or.inl ⟨by rfl, ?_⟩) ?_ ?_
  rotate_left
  · intro w'
    go_simp
    with_reducible rfl
  rotate_left
  · simp only [Act.put, List.setIfInBounds_toArray, List.set_cons_zero, List.set_cons_succ, i64_w, i32_w]
    rfl
  refine pure_ (i := 8) (N := some 11) (v := ?_) (a' := ?_) #[true, true, true, true, true, true, true, true, true, false, false, false, false, false, false, false, false, false, false, false, false, false, false, false, false, false, false, false, false, false, false, false, false, false] rfl rfl (by kernel_rfl) (fun _ _ _ h => h) (Or.inl ⟨by rfl, ?_⟩) ?_ ?_
  rotate_left
  · intro w'
    go_simp
    with_reducible rfl
  rotate_left
  · simp only [Act.put, List.setIfInBounds_toArray, List.set_cons_zero, List.set_cons_succ, i64_w, i32_w]
    rfl
  refine pure_ (i := 9) (N := some 12) (v := ?_) (a' := ?_) #[true, true, true, true, true, true, true, true, true, true, false, false, false, false, false, false, false, false, false, false, false, false, false, false, false, false, false, false, false, false, false, false, false, false] rfl rfl (by kernel_rfl) (fun _ _ _ h => h) (Or.inl ⟨by rfl, ?_⟩) ?_ ?_
  rotate_left
  · intro w'
    go_simp
    with_reducible rfl
  rotate_left
  · simp only [Act.put, List.setIfInBounds_toArray, List.set_cons_zero, List.set_cons_succ, i64_w, i32_w]
    rfl
  refine take_ (i := 10) (N := some 13) (v := ?_) (a' := ?_) #[true, true, true, true, true, true, true, true, true, true, true, false, false, false, false, false, false, false, false, false, false, false, false, false, false, false, false, false, false, false, false, false, false, false] rfl rfl (by kernel_rfl) (fun _ _ _ h => h) (Or.inl ⟨by rfl, ?_⟩) hHeld ?_ ?_
  rotate_left
  · rintro w' ⟨s0, s1, s2⟩
    go_simp
    with_reducible rfl
  rotate_left
  · simp only [Act.put, List.setIfInBounds_toArray, List.set_cons_zero, List.set_cons_succ, i64_w, i32_w]
    rfl
  refine pure_ (i := 11) (N := some 14) (v := ?_) (a' := ?_) #[true, true, true, true, true, true, true, true, true, true, true, true, false, false, false, false, false, false, false, false, false, false, false, false, false, false, false, false, false, false, false, false, false, false] rfl rfl (by kernel_rfl) (fun _ _ _ h => h) (Or.inl ⟨by rfl, ?_⟩) ?_ ?_
  rotate_left
  · intro w'
    go_simp
    with_reducible rfl
  rotate_left
  · simp only [Act.put, List.setIfInBounds_toArray, List.set_cons_zero, List.set_cons_succ, i64_w, i32_w]
    rfl
  refine pure_ (i := 12) (N := some 15) (v := ?_) (a' := ?_) #[true, true, true, true, true, true, true, true, true, true, true, true, true, false, false, false, false, false, false, false, false, false, false, false, false, false, false, false, false, false, false, false, false, false] rfl rfl (by kernel_rfl) (fun _ _ _ h => h) (Or.inl ⟨by rfl, ?_⟩) ?_ ?_
  rotate_left
  · intro w'
    go_simp
    with_reducible rfl
  rotate_left
  · simp only [Act.put, List.setIfInBounds_toArray, List.set_cons_zero, List.set_cons_succ, i64_w, i32_w]
    rfl
  refine pure_ (i := 13) (N := some 16) (v := ?_) (a' := ?_) #[true, true, true, true, true, true, true, true, true, true, true, true, true, true, false, false, false, false, false, false, false, false, false, false, false, false, false, false, false, false, false, false, false, false] rfl rfl (by kernel_rfl) (fun _ _ _ h => h) (Or.inl ⟨by rfl, ?_⟩) ?_ ?_
  rotate_left
  · intro w'
    go_simp
    with_reducible rfl
  rotate_left
  · simp only [Act.put, List.setIfInBounds_toArray, List.set_cons_zero, List.set_cons_succ, i64_w, i32_w]
    rfl
  refine pure_ (i := 14) (N := some 17) (v := ?_) (a' := ?_) #[true, true, true, true, true, true, true, true, true, true, true, true, true, true, true, false, false, false, false, false, false, false, false, false, false, false, false, false, false, false, false, false, false, false] rfl rfl (by kernel_rfl) (fun _ _ _ h => h) (Or.inl ⟨by rfl, ?_⟩) ?_ ?_
  rotate_left
  · intro w'
    go_simp
    with_reducible rfl
  rotate_left
  · simp only [Act.put, List.setIfInBounds_toArray, List.set_cons_zero, List.set_cons_succ, i64_w, i32_w]
    rfl
  refine take_ (i := 15) (N := some 18) (v := ?_) (a' := ?_) #[true, true, true, true, true, true, true, true, true, true, true, true, true, true, true, true, false, false, false, false, false, false, false, false, false, false, false, false, false, false, false, false, false, false] rfl rfl (by kernel_rfl) (fun _ _ _ h => h) (Or.inl ⟨by rfl, ?_⟩) hHeld ?_ ?_
  rotate_left
  · rintro w' ⟨s0, s1, s2⟩
    go_simp
    with_reducible rfl
  rotate_left
  · simp only [Act.put, List.setIfInBounds_toArray, List.set_cons_zero, List.set_cons_succ, i64_w, i32_w]
    rfl
  refine pure_ (i := 16) (N := some 19) (v := ?_) (a' := ?_) #[true, true, true, true, true, true, true, true, true, true, true, true, true, true, true, true, true, false, false, false, false, false, false, false, false, false, false, false, false, false, false, false, false, false] rfl rfl (by kernel_rfl) (fun _ _ _ h => h) (Or.inl ⟨by rfl, ?_⟩) ?_ ?_
  rotate_left
  · intro w'
    go_simp
    with_reducible rfl
  rotate_left
  · simp only [Act.put, List.setIfInBounds_toArray, List.set_cons_zero, List.set_cons_succ, i64_w, i32_w]
    rfl
  refine pure_ (i := 17) (N := some 20) (v := ?_) (a' := ?_) #[true, true, true, true, true, true, true, true, true, true, true, true, true, true, true, true, true, true, false, false, false, false, false, false, false, false, false, false, false, false, false, false, false, false] rfl rfl (by kernel_rfl) (fun _ _ _ h => h) (Or.inl ⟨by rfl, ?_⟩) ?_ ?_
  rotate_left
  · intro w'
    go_simp
    with_reducible rfl
  rotate_left
  · simp only [Act.put, List.setIfInBounds_toArray, List.set_cons_zero, List.set_cons_succ, i64_w, i32_w]
    rfl
  refine pure_ (i := 18) (N := some 21) (v := ?_) (a' := ?_) #[true, true, true, true, true, true, true, true, true, true, true, true, true, true, true, true, true, true, true, false, false, false, false, false, false, false, false, false, false, false, false, false, false, false] rfl rfl (by kernel_rfl) (fun _ _ _ h => h) (Or.inl ⟨by rfl, ?_⟩) ?_ ?_
  rotate_left
  · intro w'
    go_simp
    with_reducible rfl
  rotate_left
  · simp only [Act.put, List.setIfInBounds_toArray, List.set_cons_zero, List.set_cons_succ, i64_w, i32_w]
    rfl
  refine pure_ (i := 19) (N := some 22) (v := ?_) (a' := ?_) #[true, true, true, true, true, true, true, true, true, true, true, true, true, true, true, true, true, true, true, true, false, false, false, false, false, false, false, false, false, false, false, false, false, false] rfl rfl (by kernel_rfl) (fun _ _ _ h => h) (Or.inl ⟨by rfl, ?_⟩) ?_ ?_
  rotate_left
  · intro w'
    go_simp
    with_reducible rfl
  rotate_left
  · simp only [Act.put, List.setIfInBounds_toArray, List.set_cons_zero, List.set_cons_succ, i64_w, i32_w]
    rfl
  refine take_ (i := 20) (N := some 23) (v := ?_) (a' := ?_) #[true, true, true, true, true, true, true, true, true, true, true, true, true, true, true, true, true, true, true, true, true, false, false, false, false, false, false, false, false, false, false, false, false, false] rfl rfl (by kernel_rfl) (fun _ _ _ h => h) (Or.inl ⟨by rfl, ?_⟩) hHeld ?_ ?_
  rotate_left
  · rintro w' ⟨s0, s1, s2⟩
    go_simp
    with_reducible rfl
  rotate_left
  · simp only [Act.put, List.setIfInBounds_toArray, List.set_cons_zero, List.set_cons_succ, i64_w, i32_w]
    rfl
  refine pure_ (i := 21) (N := some 24) (v := ?_) (a' := ?_) #[true, true, true, true, true, true, true, true, true, true, true, true, true, true, true, true, true, true, true, true, true, true, false, false, false, false, false, false, false, false, false, false, false, false] rfl rfl (by kernel_rfl) (fun _ _ _ h => h) (Or.inl ⟨by rfl, ?_⟩) ?_ ?_
  rotate_left
  · intro w'
    go_simp
    with_reducible rfl
  rotate_left
  · simp only [Act.put, List.setIfInBounds_toArray, List.set_cons_zero, List.set_cons_succ, i64_w, i32_w]
    rfl
  refine pure_ (i := 22) (N := some 25) (v := ?_) (a' := ?_) #[true, true, true, true, true, true, true, true, true, true, true, true, true, true, true, true, true, true, true, true, true, true, true, false, false, false, false, false, false, false, false, false, false, false] rfl rfl (by kernel_rfl) (fun _ _ _ h => h) (Or.inl ⟨by rfl, ?_⟩) ?_ ?_
  rotate_left
  · intro w'
    go_simp
    with_reducible rfl
  rotate_left
  · simp only [Act.put, List.setIfInBounds_toArray, List.set_cons_zero, List.set_cons_succ, i64_w, i32_w]
    rfl
  refine pure_ (i := 23) (N := some 26) (v := ?_) (a' := ?_) #[true, true, true, true, true, true, true, true, true, true, true, true, true, true, true, true, true, true, true, true, true, true, true, true, false, false, false, false, false, false, false, false, false, false] rfl rfl (by kernel_rfl) (fun _ _ _ h => h) (Or.inl ⟨by rfl, ?_⟩) ?_ ?_
  rotate_left
  · intro w'
    go_simp
    with_reducible rfl
  rotate_left
  · simp only [Act.put, List.setIfInBounds_toArray, List.set_cons_zero, List.set_cons_succ, i64_w, i32_w]
    rfl
  refine pure_ (i := 24) (N := some 27) (v := ?_) (a' := ?_) #[true, true, true, true, true, true, true, true, true, true, true, true, true, true, true, true, true, true, true, true, true, true, true, true, true, false, false, false, false, false, false, false, false, false] rfl rfl (by kernel_rfl) (fun _ _ _ h => h) (Or.inl ⟨by rfl, ?_⟩) ?_ ?_
  rotate_left
  · intro w'
    go_simp
    with_reducible rfl
  rotate_left
  · simp only [Act.put, List.setIfInBounds_toArray, List.set_cons_zero, List.set_cons_succ, i64_w, i32_w]
    rfl
  refine pure_ (i := 26) (N := some 29) (v := ?_) (a' := ?_) #[true, true, true, true, true, true, true, true, true, true, true, true, true, true, true, true, true, true, true, true, true, true, true, true, true, false, true, false, false, false, false, false, false, false] rfl rfl (by kernel_rfl) (fun _ _ _ h => h) (Or.inl ⟨by rfl, ?_⟩) ?_ ?_
  rotate_left
  · intro w'
    go_simp
    with_reducible rfl
  rotate_left
  · simp only [Act.put, List.setIfInBounds_toArray, List.set_cons_zero, List.set_cons_succ, i64_w, i32_w]
    rfl
  refine pure_ (i := 28) (N := some 31) (v := ?_) (a' := ?_) #[true, true, true, true, true, true, true, true, true, true, true, true, true, true, true, true, true, true, true, true, true, true, true, true, true, false, true, false, true, false, false, false, false, false] rfl rfl (by kernel_rfl) (fun _ _ _ h => h) (Or.inl ⟨by rfl, ?_⟩) ?_ ?_
  rotate_left
  · intro w'
    go_simp
    with_reducible rfl
  rotate_left
  · simp only [Act.put, List.setIfInBounds_toArray, List.set_cons_zero, List.set_cons_succ, i64_w, i32_w]
    rfl
  refine take_ (i := 25) (N := some 28) (v := ?_) (a' := ?_) #[true, true, true, true, true, true, true, true, true, true, true, true, true, true, true, true, true, true, true, true, true, true, true, true, true, true, true, false, true, false, false, false, false, false] rfl rfl (by kernel_rfl) (fun _ _ _ h => h) (Or.inl ⟨by rfl, ?_⟩) hHeld ?_ ?_
  rotate_left
  · rintro w' ⟨s0, s1, s2⟩
    go_simp
    with_reducible rfl
  rotate_left
  · simp only [Act.put, List.setIfInBounds_toArray, List.set_cons_zero, List.set_cons_succ, i64_w, i32_w]
    rfl
  refine take_ (i := 27) (N := some 30) (v := ?_) (a' := ?_) #[true, true, true, true, true, true, true, true, true, true, true, true, true, true, true, true, true, true, true, true, true, true, true, true, true, true, true, true, true, false, false, false, false, false] rfl rfl (by kernel_rfl) (fun _ _ _ h => h) (Or.inl ⟨by rfl, ?_⟩) hHeld ?_ ?_
  rotate_left
  · rintro w' ⟨s0, s1, s2⟩
    go_simp
    with_reducible rfl
  rotate_left
  · simp only [Act.put, List.setIfInBounds_toArray, List.set_cons_zero, List.set_cons_succ, i64_w, i32_w]
    rfl
  refine take_ (i := 29) (N := some 32) (v := ?_) (a' := ?_) #[true, true, true, true, true, true, true, true, true, true, true, true, true, true, true, true, true, true, true, true, true, true, true, true, true, true, true, true, true, true, false, false, false, false] rfl rfl (by kernel_rfl) (fun _ _ _ h => h) (Or.inl ⟨by rfl, ?_⟩) hHeld ?_ ?_
  rotate_left
  · rintro w' ⟨s0, s1, s2⟩
    go_simp
    with_reducible rfl
  rotate_left
  · simp only [Act.put, List.setIfInBounds_toArray, List.set_cons_zero, List.set_cons_succ, i64_w, i32_w]
    rfl
  refine one_ (i := 30) (N := some 33) #[true, true, true, true, true, true, true, true, true, true, true, true, true, true, true, true, true, true, true, true, true, true, true, true, true, true, true, true, true, true, true, false, false, false] rfl rfl (by kernel_rfl) (by decide) (fun K hK => ?_)
  refine goes_ Tryd.func36 (by kernel_rfl) rfl #[.int .i64 y, .int .i64 m] (by rfl) rfl rfl (by simp only [List.map_toArray, List.map_cons, List.map_nil]; rfl) ?_
  with_reducible refine (rMonth_any y m _ hy1 (by omega) hm1 hm2).mono ?_
  rintro e w8 ⟨rfl, rfl⟩
  refine ⟨_, rfl, ?_⟩
  rw [Hln.out]
  refine hK.out _ _ ⟨k0, k1, k2⟩ (fun hHeld => ?_)
  clear hK K
  refine norm_ (a' := ?_) ?_ ?_
  rotate_left
  · show Act.put _ (some 33) _ = _
    simp only [Act.put, List.setIfInBounds_toArray, List.set_cons_zero, List.set_cons_succ, i64_w, i32_w]
    rfl
  refine pure_ (i := 31) (N := some 34) (v := ?_) (a' := ?_) #[true, true, true, true, true, true, true, true, true, true, true, true, true, true, true, true, true, true, true, true, true, true, true, true, true, true, true, true, true, true, true, true, false, false] rfl rfl (by kernel_rfl) (fun _ _ _ h => h) (Or.inl ⟨by rfl, ?_⟩) ?_ ?_
  rotate_left
  · intro w'
    go_simp
    with_reducible rfl
  rotate_left
  · simp only [Act.put, List.setIfInBounds_toArray, List.set_cons_zero, List.set_cons_succ, i64_w, i32_w]
    rfl
  refine pure_ (i := 32) (N := some 35) (v := ?_) (a' := ?_) #[true, true, true, true, true, true, true, true, true, true, true, true, true, true, true, true, true, true, true, true, true, true, true, true, true, true, true, true, true, true, true, true, true, false] rfl rfl (by kernel_rfl) (fun _ _ _ h => h) (Or.inl ⟨by rfl, ?_⟩) ?_ ?_
  rotate_left
  · intro w'
    go_simp
    with_reducible rfl
  rotate_left
  · simp only [Act.put, List.setIfInBounds_toArray, List.set_cons_zero, List.set_cons_succ, i64_w, i32_w]
    rfl
  refine pure_ (i := 33) (N := some 2) (v := ?_) (a' := ?_) #[true, true, true, true, true, true, true, true, true, true, true, true, true, true, true, true, true, true, true, true, true, true, true, true, true, true, true, true, true, true, true, true, true, true] rfl rfl (by kernel_rfl) (fun _ _ _ h => h) (Or.inl ⟨by rfl, ?_⟩) ?_ ?_
  rotate_left
  · intro w'
    go_simp
    with_reducible rfl
  rotate_left
  · simp only [Act.put, List.setIfInBounds_toArray, List.set_cons_zero, List.set_cons_succ, i64_w, i32_w]
    rfl
  refine done_ (by kernel_rfl) ?_
  go_wp2
  go_ret
  exact ⟨rfl, by rw [hg]; exact below_drewN HB.out _⟩
set_option maxHeartbeats 4000000 in
set_option maxRecDepth 100000 in
theorem rRight_far (y m d : Int) (w : World) (h : ¬ (1 ≤ y ∧ y ≤ 9999 ∧ 1 ≤ m ∧ m ≤ 12 ∧ 1 ≤ d)) :
    Calls Tryd.prog 34 #[.agg #[.int .i64 y, .int .i64 m, .int .i64 d]] w fun e w' => e = .returned (.bool false) ∧ Below w.heap.size w w' := by
  have hc : decide (1 ≤ y) = false ∨ decide (1 ≤ y) = true ∧ decide (y ≤ 9999) = false ∨ decide (1 ≤ y) = true ∧ decide (y ≤ 9999) = true ∧ decide (1 ≤ m) = false ∨ decide (1 ≤ y) = true ∧ decide (y ≤ 9999) = true ∧ decide (1 ≤ m) = true ∧ decide (m ≤ 12) = false ∨
      decide (1 ≤ y) = true ∧ decide (y ≤ 9999) = true ∧ decide (1 ≤ m) = true ∧ decide (m ≤ 12) = true ∧ decide (1 ≤ d) = false := by simp only [decide_eq_true_eq, decide_eq_false_iff_not]; omega
  clear h
  go_enter Tryd.func34, Tryd.ntmps34
  go_wp2_with fail
  have hN := Blk.new w 23 #[.int .i64 y, .int .i64 m, .int .i64 d]
  have HB := Held.mk ((Below.refl w.heap.size w).alloc (Nat.le_refl _) (.cells #[.int .i64 y, .int .i64 m, .int .i64 d] 23))
  generalize w.alloc (.cells #[.int .i64 y, .int .i64 m, .int .i64 d] 23) = w1 at *
  generalize hg : w.heap.size = g at *
  have k0 := hN.cell 0
  have k1 := hN.cell 1
  have k2 := hN.cell 2
  simp at k0 k1 k2
  clear hN
  rcases hc with d0 | ⟨d0, d1⟩ | ⟨d0, d1, d2⟩ | ⟨d0, d1, d2, d3⟩ | ⟨d0, d1, d2, d3, d4⟩ <;>
  · go_quiet (fail)
    go_wp2
    go_ret
    exact ⟨rfl, by rw [hg]; exact below_drewN HB.out _⟩
theorem rRight_yes {y m d : Int} (h : Right y m d) (w : World) : Calls Tryd.prog 34 #[.agg #[.int .i64 y, .int .i64 m, .int .i64 d]] w fun e w' => e = .returned (.bool true) ∧ Below w.heap.size w w' :=
  (rRight_call y m d w h.y1 h.y2 h.m1 h.m2 h.d1).mono (fun e w' ⟨he, hb⟩ => by rw [decide_eq_true h.d2] at he; exact ⟨he, hb⟩)
theorem rRight_no {y m d : Int} (h : ¬ Right y m d) (w : World) : Calls Tryd.prog 34 #[.agg #[.int .i64 y, .int .i64 m, .int .i64 d]] w fun e w' => e = .returned (.bool false) ∧ Below w.heap.size w w' := by
  by_cases hr : 1 ≤ y ∧ y ≤ 9999 ∧ 1 ≤ m ∧ m ≤ 12 ∧ 1 ≤ d
  · obtain ⟨h1, h2, h3, h4, h5⟩ := hr
    exact (rRight_call y m d w h1 h2 h3 h4 h5).mono (fun e w' ⟨he, hb⟩ => by rw [decide_eq_false (fun hd => h ⟨h1, h2, h3, h4, h5, hd⟩)] at he; exact ⟨he, hb⟩)
  · exact rRight_far y m d w hr
set_option maxHeartbeats 4000000 in
set_option maxRecDepth 100000 in
theorem rNumber_no (y m d : Int) (w : World) (h : ¬ Right y m d) : Calls Tryd.prog 8 #[Dt y m d] w fun e w' => e = .returned (.tuple #[.int .i64 0, .int .i64 8]) ∧ Below w.heap.size w w' := by
  unfold Dt
  have HB := Held.mk ((Below.refl w.heap.size w).alloc (Nat.le_refl _) (.cells #[.int .i64 y, .int .i64 m, .int .i64 d] 23))
  go_enter Tryd.func8, Tryd.ntmps8
  go_wp2_with fail
  refine (rRight_no h _).mono ?_
  rintro e w1 ⟨rfl, hb1⟩
  have HB1 : Held (Below w.heap.size w w1) := ⟨HB.out.trans (hb1.mono HB.out.size)⟩
  clear hb1
  go_wp2
  go_ret2
  exact ⟨rfl, HB1.out⟩
theorem ys_hi' {y z : Int} (h1 : 1 ≤ y) (h : y ≤ z) : ysI y ≤ ysI z := by unfold ysI; omega
theorem cum_le {y k m : Int} (h1 : 1 ≤ k) (h : k ≤ m) (h2 : m ≤ 12) : cumI y k ≤ cumI y m := by
  by_cases he : k = m
  · rw [he]; exact Int.le_refl _
  · have := cum_lt (y := y) h1 (show k < m by omega) (by omega)
    have := len_lo y k h1 (by omega)
    omega
set_option maxHeartbeats 8000000 in
set_option maxRecDepth 100000 in
theorem rNumber_in (y m d : Int) (w : World) (h : Right y m d) : Calls Tryd.prog 8 #[Dt y m d] w fun e w' => e = .returned (.tuple #[.int .i64 (numI y m d), .int .i64 0]) ∧ Below w.heap.size w w' := by
  unfold Dt
  have HR := Held.mk h
  have hy1 := h.y1
  have hy2 := h.y2
  have hm1 := h.m1
  have hm2 := h.m2
  have hd1 := h.d1
  have hd31 : d ≤ 31 := Int.le_trans h.d2 (len_hi y m hm1 hm2)
  have hys0 := ysI_lo y hy1
  have hys1 := ysI_hi y (by omega)
  have Hmono : Held (∀ z, 1 ≤ z → z ≤ y → 0 ≤ ysI z ∧ ysI z ≤ ysI y) := ⟨fun z h1 h2 => ⟨ysI_lo z h1, ys_hi' h1 h2⟩⟩
  have Hcum : Held (∀ k, 1 ≤ k → k ≤ m → 0 ≤ cumI y k ∧ cumI y k ≤ 366) := ⟨fun k h1 h2 => ⟨cum_lo y k, by have := cum_mono y k h1 (by omega); have := leapI_cases y; omega⟩⟩
  have Hnum := Held.mk (num_cum y m d)
  clear h
  have hN := Blk.new w 23 #[.int .i64 y, .int .i64 m, .int .i64 d]
  have HB := Held.mk ((Below.refl w.heap.size w).alloc (Nat.le_refl _) (.cells #[.int .i64 y, .int .i64 m, .int .i64 d] 23))
  go_enter Tryd.func8, Tryd.ntmps8
  go_wp2_with fail
  generalize w.alloc (.cells #[.int .i64 y, .int .i64 m, .int .i64 d] 23) = wA at *
  refine (rRight_yes HR.out wA).mono ?_
  rintro e w1 ⟨rfl, hb1⟩
  have HB1 : Held (Below w.heap.size w w1) := ⟨HB.out.trans (hb1.mono HB.out.size)⟩
  have hN1 := hN.keep (Keep.of_below hb1 (fun _ => False)) (fun h => h)
  have k0 := hN1.cell 0
  have k1 := hN1.cell 1
  have k2 := hN1.cell 2
  simp at k0 k1 k2
  clear hb1 hN hN1 HB
  go_wp2
  go_loopw [4, 5] (fun u v wr => ∃ z : Int, v = .int .i64 z ∧ u = .int .i64 (d + ysI z) ∧ 1 ≤ z ∧ z ≤ y ∧ w1 = wr) (fun _ v _ => (y - intOf v).toNat)
  case atStart => exact ⟨1, rfl, by simp [ysI], by omega, hy1, rfl⟩
  case round =>
    obtain ⟨z, rfl, rfl, hz1, hz2, rfl⟩ := hrel
    have hzb := Hmono.out z hz1 hz2
    by_cases hlt : z < y
    · have hs := ys_step z hz1
      have Hs := Held.mk hs
      have hl := leapI_cases z
      have hzb2 := Hmono.out (z + 1) (by omega) (by omega)
      rw [hs] at hzb2
      clear hs
      go_wp2_with fail
      refine (rYear_any z w1 hz1 (by omega)).mono ?_
      rintro e w2 ⟨rfl, rfl⟩
      generalize leapI z = lz at *
      generalize ysI z = yz at *
      go_wp2
      go_roundw
      case rel => exact ⟨z + 1, by go_num, by rw [Hs.out]; go_num, by omega, by omega, by first | rfl | trivial⟩
      case measure => simp [intOf]; omega
    · obtain rfl : z = y := by omega
      have Hc1 := Held.mk (cum1 z)
      go_wp2
      go_loopw [4, 6] (fun u v wq => ∃ k : Int, v = .int .i64 k ∧ u = .int .i64 (d + ysI z + cumI z k) ∧ 1 ≤ k ∧ k ≤ m ∧ w1 = wq) (fun _ v _ => (m - intOf v).toNat)
      case atStart => exact ⟨1, rfl, by rw [Hc1.out, Int.add_zero], by omega, hm1, rfl⟩
      case round =>
        obtain ⟨k, rfl, rfl, hk1, hk2, rfl⟩ := hrel
        have hkb := Hcum.out k hk1 hk2
        by_cases hlt2 : k < m
        · have hs := cum_step z k hk1 (by omega)
          have hll := len_lo z k hk1 (by omega)
          have hlh := len_hi z k hk1 (by omega)
          have Hs := Held.mk hs
          clear hs
          go_wp2_with fail
          refine (rMonth_any z k w1 hy1 (by omega) hk1 (by omega)).mono ?_
          rintro e w2 ⟨rfl, rfl⟩
          generalize lengthI z k = ln at *
          generalize cumI z k = ck at *
          go_wp2
          go_roundw
          case rel => exact ⟨k + 1, by go_num, by rw [← Hs.out]; go_num, by omega, by omega, by first | rfl | trivial⟩
          case measure => simp [intOf]; omega
        · obtain rfl : k = m := by omega
          go_wp2
          go_ret2
          exact ⟨by rw [Hnum.out, show ysI z + cumI z k + d = d + ysI z + cumI z k from by omega]; rfl, HB1.out⟩

def rOfRes (n : Int) (w : World) (e : Ending) (w' : World) : Prop := ∃ y m d, e = .returned (.tuple #[Dt y m d, .int .i64 0]) ∧ Right y m d ∧ numI y m d = n ∧ Below w.heap.size w w'
theorem numI_of {n y m : Int} : numI y m (n - ysI y - cumI y m) = n := by rw [num_cum]; omega
set_option maxHeartbeats 8000000 in
set_option maxRecDepth 100000 in
theorem rOf_out (n : Int) (w : World) (h : ¬ (1 ≤ n ∧ n ≤ 3652059)) : Calls Tryd.prog 11 #[.int .i64 n] w fun e w' => e = .returned (.tuple #[Dt 0 0 0, .int .i64 8]) ∧ Below w.heap.size w w' := by
  have hN := Held.mk (Blk.new w 23 #[.int .i64 0, .int .i64 0, .int .i64 0])
  have HB := Held.mk ((Below.refl w.heap.size w).alloc (Nat.le_refl _) (.cells #[.int .i64 0, .int .i64 0, .int .i64 0] 23))
  go_enter Tryd.func11, Tryd.ntmps11
  go_wp2_with fail
  refine (rIs_any n _).mono ?_
  rintro e w1 ⟨rfl, rfl⟩
  rw [decide_eq_false h]
  clear h
  generalize w.alloc (.cells #[.int .i64 0, .int .i64 0, .int .i64 0] 23) = w1 at *
  have k0 := hN.out.cell 0
  have k1 := hN.out.cell 1
  have k2 := hN.out.cell 2
  simp at k0 k1 k2
  have f0 := hN.out.frozen 0
  have f1 := hN.out.frozen 1
  have f2 := hN.out.frozen 2
  go_wp2
  exact bodyPost_ret (Go.Proofs.YtlnkdgjlbpldpaaDoorW.PrintWords.results_ct rfl _ _ w.heap.size 23 #[.int .i64 0, .int .i64 0, .int .i64 0] (0, 0) _ rfl (((hN.out.set_ 0 (.int .i64 0)).set_ 1 (.int .i64 0)).set_ 2 (.int .i64 0)) Tryd.underlying23 rfl (by kernel_rfl)) rfl ⟨rfl, ((HB.out.setCell (Nat.le_refl _) _).setCell (Nat.le_refl _) _).setCell (Nat.le_refl _) _⟩
set_option maxHeartbeats 8000000 in
set_option maxRecDepth 100000 in
theorem rOf_in (n : Int) (w : World) (h1 : 1 ≤ n) (h2 : n ≤ 3652059) : Calls Tryd.prog 11 #[.int .i64 n] w (rOfRes n w) := by
  have hN := Held.mk (Blk.new w 23 #[.int .i64 0, .int .i64 0, .int .i64 0])
  have HB := Held.mk ((Below.refl w.heap.size w).alloc (Nat.le_refl _) (.cells #[.int .i64 0, .int .i64 0, .int .i64 0] 23))
  go_enter Tryd.func11, Tryd.ntmps11
  go_wp2_with fail
  refine (rIs_any n _).mono ?_
  rintro e w1 ⟨rfl, rfl⟩
  rw [decide_eq_true (And.intro h1 h2)]
  generalize w.alloc (.cells #[.int .i64 0, .int .i64 0, .int .i64 0] 23) = w1 at *
  generalize hg : w.heap.size = g at *
  have Hg := Held.mk hg
  clear hg
  have hlt := hN.out.lt
  have HN1 := Held.mk (hN.out.alloc (.cells #[.int .i64 1, .int .i64 1, .int .i64 0] 23))
  have HM1 := Held.mk (Blk.new w1 23 #[.int .i64 1, .int .i64 1, .int .i64 0])
  have HB1 : Held (Below g w (w1.alloc (.cells #[.int .i64 1, .int .i64 1, .int .i64 0] 23))) := ⟨HB.out.alloc (Nat.le_of_lt hlt) _⟩
  go_wp2
  generalize w1.alloc (.cells #[.int .i64 1, .int .i64 1, .int .i64 0] 23) = w2 at *
  generalize hb : w1.heap.size = b at *
  have hgb : g ≠ b := by omega
  have hgb2 : g ≤ b := by omega
  clear hb hN HB
  go_loopw [0] (fun u wr => ∃ y : Int, u = .int .i64 (n - ysI y) ∧ 1 ≤ y ∧ y ≤ 9999 ∧ ysI y < n ∧ Held (Blk wr b 23 #[.int .i64 y, .int .i64 1, .int .i64 0]) ∧ Held (Blk wr g 23 #[.int .i64 0, .int .i64 0, .int .i64 0]) ∧ Held (Below g w wr)) (fun u _ => (intOf u).toNat)
  case atStart => exact ⟨1, by simp [ysI], by omega, by omega, by simp [ysI]; omega, HM1, HN1, HB1⟩
  case round =>
    obtain ⟨y, rfl, hy1, hy2, hyn, HM, HN, HBr⟩ := hrel
    clear HM1 HN1 HB1
    have hys0 := ysI_lo y hy1
    have hl := leapI_cases y
    have hs := ys_step y hy1
    have k0 := HM.out.cell 0
    have k1 := HM.out.cell 1
    have k2 := HM.out.cell 2
    simp at k0 k1 k2
    have f0 := HM.out.frozen 0
    have f1 := HM.out.frozen 1
    have f2 := HM.out.frozen 2
    go_wp2_with fail
    refine (rYear_any y wr hy1 (by omega)).mono ?_
    rintro e w3 ⟨rfl, rfl⟩
    by_cases hlt2 : 365 + leapI y < n - ysI y
    · have hy3 : y + 1 ≤ 9999 := by
        by_cases h : y + 1 ≤ 9999
        · exact h
        · obtain rfl : y = 9999 := by omega
          have : ysI (9999 + 1) = 3652059 := by decide
          omega
      have hd0 : decide (365 + leapI y < n - ysI y) = true := decide_eq_true hlt2
      have Hs := Held.mk hs
      clear hs
      go_wp2_with fail
      refine (rYear_any y wr hy1 (by omega)).mono ?_
      rintro e w3 ⟨rfl, rfl⟩
      have HM2 : Held (Blk (wr.setCell ⟨b, 0, none⟩ (.int .i64 (y + 1))) b 23 #[.int .i64 (y + 1), .int .i64 1, .int .i64 0]) := ⟨HM.out.set_ 0 (.int .i64 (y + 1))⟩
      have HN2 : Held (Blk (wr.setCell ⟨b, 0, none⟩ (.int .i64 (y + 1))) g 23 #[.int .i64 0, .int .i64 0, .int .i64 0]) := ⟨HN.out.far hgb _⟩
      have HB2 : Held (Below g w (wr.setCell ⟨b, 0, none⟩ (.int .i64 (y + 1)))) := ⟨HBr.out.setCell hgb2 _⟩
      go_wp2
      go_roundw
      case rel => exact ⟨y + 1, by rw [Hs.out]; go_num, by omega, by omega, by rw [Hs.out]; omega, HM2, HN2, HB2⟩
      case measure => simp [intOf]; omega
    · have hd0 : decide (365 + leapI y < n - ysI y) = false := decide_eq_false hlt2
      have hc13 := cum13 y
      have hc1 := cum1 y
      have Hc1 := Held.mk hc1
      clear hs
      go_wp2
      go_loopw [0] (fun u wq => ∃ m : Int, u = .int .i64 (n - ysI y - cumI y m) ∧ 1 ≤ m ∧ m ≤ 12 ∧ 1 ≤ n - ysI y - cumI y m ∧ Held (Blk wq b 23 #[.int .i64 y, .int .i64 m, .int .i64 0]) ∧ Held (Blk wq g 23 #[.int .i64 0, .int .i64 0, .int .i64 0]) ∧ Held (Below g w wq)) (fun u _ => (intOf u).toNat)
      case atStart => exact ⟨1, by rw [Hc1.out, Int.sub_zero], by omega, by omega, by rw [Hc1.out]; omega, HM, HN, HBr⟩
      case round =>
        obtain ⟨m, rfl, hm1, hm2, hmn, HM, HN, HBr⟩ := hrel
        have hcs := cum_step y m hm1 hm2
        have hc0 := cum_lo y m
        have hl1 := len_lo y m hm1 hm2
        have hl2 := len_hi y m hm1 hm2
        have k0 := HM.out.cell 0
        have k1 := HM.out.cell 1
        have k2 := HM.out.cell 2
        simp at k0 k1 k2
        have f0 := HM.out.frozen 0
        have f1 := HM.out.frozen 1
        have f2 := HM.out.frozen 2
        go_wp2_with fail
        refine (rMonth_any y m wr hy1 (by omega) hm1 hm2).mono ?_
        rintro e w3 ⟨rfl, rfl⟩
        by_cases hlt3 : lengthI y m < n - ysI y - cumI y m
        · have hm3 : m + 1 ≤ 12 := by
            by_cases h : m + 1 ≤ 12
            · exact h
            · obtain rfl : m = 12 := by omega
              rw [show (12 : Int) + 1 = 13 from rfl, hc13] at hcs
              omega
          have hd1 : decide (lengthI y m < n - ysI y - cumI y m) = true := decide_eq_true hlt3
          have Hcs := Held.mk hcs
          clear hcs
          go_wp2_with fail
          refine (rMonth_any y m wr hy1 (by omega) hm1 hm2).mono ?_
          rintro e w3 ⟨rfl, rfl⟩
          have HM2 : Held (Blk (wr.setCell ⟨b, 1, none⟩ (.int .i64 (m + 1))) b 23 #[.int .i64 y, .int .i64 (m + 1), .int .i64 0]) := ⟨HM.out.set_ 1 (.int .i64 (m + 1))⟩
          have HN2 : Held (Blk (wr.setCell ⟨b, 1, none⟩ (.int .i64 (m + 1))) g 23 #[.int .i64 0, .int .i64 0, .int .i64 0]) := ⟨HN.out.far hgb _⟩
          have HB2 : Held (Below g w (wr.setCell ⟨b, 1, none⟩ (.int .i64 (m + 1)))) := ⟨HBr.out.setCell hgb2 _⟩
          go_wp2
          go_roundw
          case rel => exact ⟨m + 1, by rw [← Hcs.out]; go_num, by omega, by omega, by rw [← Hcs.out]; omega, HM2, HN2, HB2⟩
          case measure => simp [intOf]; omega
        · have hd1 : decide (lengthI y m < n - ysI y - cumI y m) = false := decide_eq_false hlt3
          have HR : Held (Right y m (n - ysI y - cumI y m)) := ⟨⟨hy1, hy2, hm1, hm2, hmn, by omega⟩⟩
          have HNum : Held (numI y m (n - ysI y - cumI y m) = n) := ⟨numI_of⟩
          generalize n - ysI y - cumI y m = d at *
          have HM2 : Held (Blk (wr.setCell ⟨b, 2, none⟩ (.int .i64 d)) b 23 #[.int .i64 y, .int .i64 m, .int .i64 d]) := ⟨HM.out.set_ 2 (.int .i64 d)⟩
          have HN2 : Held (Blk (wr.setCell ⟨b, 2, none⟩ (.int .i64 d)) g 23 #[.int .i64 0, .int .i64 0, .int .i64 0]) := ⟨HN.out.far hgb _⟩
          have HB2 : Held (Below g w (wr.setCell ⟨b, 2, none⟩ (.int .i64 d))) := ⟨HBr.out.setCell hgb2 _⟩
          have g0 := HN2.out.cell 0
          have g1 := HN2.out.cell 1
          have g2 := HN2.out.cell 2
          have j0 := HM2.out.cell 0
          have j1 := HM2.out.cell 1
          have j2 := HM2.out.cell 2
          simp only [List.getElem?_toArray, List.getElem?_cons_zero, List.getElem?_cons_succ] at g0 g1 g2 j0 j1 j2
          have e0 := HN2.out.frozen 0
          have e1 := HN2.out.frozen 1
          have e2 := HN2.out.frozen 2
          go_wp2
          exact bodyPost_ret (Go.Proofs.YtlnkdgjlbpldpaaDoorW.PrintWords.results_ct rfl _ _ g 23 #[.int .i64 y, .int .i64 m, .int .i64 d] (0, 0) _ rfl (((HN2.out.set_ 0 (.int .i64 y)).set_ 1 (.int .i64 m)).set_ 2 (.int .i64 d)) Tryd.underlying23 rfl (by kernel_rfl)) rfl ⟨y, m, d, rfl, HR.out, HNum.out, by rw [Hg.out]; exact ((HB2.out.setCell (Nat.le_refl _) _).setCell (Nat.le_refl _) _).setCell (Nat.le_refl _) _⟩
set_option maxHeartbeats 1000000 in
set_option maxRecDepth 100000 in
theorem rWeekday_out (n : Int) (w : World) (h : ¬ (1 ≤ n ∧ n ≤ 3652059)) : Calls Tryd.prog 13 #[.int .i64 n] w fun e w' => e = .returned (.tuple #[.int .i64 0, .int .i64 8]) ∧ w = w' := by
  go_enter Tryd.func13, Tryd.ntmps13
  go_wp2_with fail
  refine (rIs_any n w).mono ?_
  rintro e w1 ⟨rfl, rfl⟩
  rw [decide_eq_false h]
  clear h
  go_wp2
  go_ret2
  exact ⟨rfl, rfl⟩
set_option maxHeartbeats 1000000 in
set_option maxRecDepth 100000 in
theorem rWeekday_in (n : Int) (w : World) (h1 : 1 ≤ n) (h2 : n ≤ 3652059) : Calls Tryd.prog 13 #[.int .i64 n] w fun e w' => e = .returned (.tuple #[.int .i64 ((n + 6) % 7), .int .i64 0]) ∧ w = w' := by
  have e7 : (n - 1).tmod 7 = (n + 6) % 7 := by rw [Int.tmod_eq_emod_of_nonneg (by omega)]; omega
  have E7 := Held.mk e7
  go_enter Tryd.func13, Tryd.ntmps13
  go_wp2_with fail
  refine (rIs_any n w).mono ?_
  rintro e w1 ⟨rfl, rfl⟩
  rw [decide_eq_true (And.intro h1 h2)]
  go_wp2
  go_ret2
  exact ⟨by first | rfl | (rw [← E7.out]; rfl), rfl⟩
set_option maxHeartbeats 1000000 in
set_option maxRecDepth 100000 in
theorem rWeek_out (n : Int) (w : World) (h : ¬ (1 ≤ n ∧ n ≤ 3652059)) : Calls Tryd.prog 15 #[.int .i64 n] w fun e w' => e = .returned (.tuple #[.int .i64 0, .int .i64 0, .int .i64 8]) ∧ w = w' := by
  go_enter Tryd.func15, Tryd.ntmps15
  go_wp2_with fail
  refine (rIs_any n w).mono ?_
  rintro e w1 ⟨rfl, rfl⟩
  rw [decide_eq_false h]
  clear h
  go_wp2
  go_ret3
  exact ⟨rfl, rfl⟩
def rWeekRes (n : Int) (w : World) (e : Ending) (w' : World) : Prop := ∃ y m d, e = .returned (.tuple #[.int .i64 y, .int .i64 ((thI n - (ysI y + 1)) / 7 + 1), .int .i64 0]) ∧ Right y m d ∧ numI y m d = thI n ∧ Below w.heap.size w w'
set_option maxHeartbeats 2000000 in
set_option maxRecDepth 100000 in
theorem rWeek_in (n : Int) (w : World) (h1 : 1 ≤ n) (h2 : n ≤ 3652059) : Calls Tryd.prog 15 #[.int .i64 n] w (rWeekRes n w) := by
  have hth := th_in h1 h2
  have Hth : Held (thI n = n - (n + 6) % 7 + 3) := ⟨rfl⟩
  have e7 : (n - 1).tmod 7 = (n + 6) % 7 := by rw [Int.tmod_eq_emod_of_nonneg (by omega)]; omega
  go_enter Tryd.func15, Tryd.ntmps15
  go_wp2_with fail
  refine (rIs_any n w).mono ?_
  rintro e w1 ⟨rfl, rfl⟩
  rw [decide_eq_true (And.intro h1 h2)]
  have hw0 : 0 ≤ (n + 6) % 7 := by omega
  have hw1 : (n + 6) % 7 ≤ 6 := by omega
  generalize hwd : (n + 6) % 7 = wd at *
  have Hwd := Held.mk hwd
  clear hwd
  have eth : n - wd + 3 = thI n := Hth.out.symm
  generalize hthg : thI n = th at *
  have Hthg := Held.mk hthg
  clear hthg
  go_wp2_with fail
  refine (rOf_in th w (by omega) (by omega)).mono ?_
  rintro e w2 ⟨y, m, d, rfl, hR, hn, hb⟩
  have HR := Held.mk hR
  have HN := Held.mk hn
  have HB := Held.mk hb
  have hnb := hR.num
  rw [hn] at hnb
  have hy1 := hR.y1
  have hy2 := hR.y2
  have hys0 := ysI_lo y hy1
  have hys1 := ysI_hi y (by omega)
  have hr11 : Right y 1 1 := ⟨hy1, hy2, by omega, by omega, by omega, by have := len_lo y 1 (by omega) (by omega); omega⟩
  have HR11 := Held.mk hr11
  have hs2 := hb.size
  clear hR hn hb hr11
  unfold Dt
  have HB3 : Held (Below w.heap.size w (w2.alloc (.cells #[.int .i64 y, .int .i64 m, .int .i64 d] 23))) := ⟨HB.out.alloc hs2 _⟩
  have HN3 := Held.mk (Blk.new w2 23 #[.int .i64 y, .int .i64 m, .int .i64 d])
  go_wp2_with fail
  generalize w2.alloc (.cells #[.int .i64 y, .int .i64 m, .int .i64 d] 23) = w3 at *
  refine (rNumber_in y 1 1 w3 HR11.out).mono ?_
  rintro e w4 ⟨rfl, hb⟩
  have HB4 : Held (Below w.heap.size w w4) := ⟨HB3.out.trans (hb.mono HB3.out.size)⟩
  have HN4 := Held.mk (HN3.out.keep (Keep.of_below hb (fun _ => False)) (fun h => h))
  have k0 := HN4.out.cell 0
  simp at k0
  clear hb
  rw [num11]
  have h0 : 0 ≤ th - (ysI y + 1) := by omega
  generalize hys : ysI y = ys at *
  have Hys := Held.mk hys
  clear hys
  go_wp2
  go_ret3
  exact ⟨y, m, d, by rw [Hys.out, Hthg.out]; rfl, HR.out, HN.out.trans Hthg.out.symm, HB4.out⟩
end Cal
end Go.Proofs.YtlnkdgjlbpldpaaDoor
