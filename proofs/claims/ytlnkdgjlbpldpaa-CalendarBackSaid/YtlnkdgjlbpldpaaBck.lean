/- CalendarBack: the walk. -/
import Derived.Test.YtlnkdgjlbpldpaaRgt
namespace Go.Proofs.Ytlnkdgjlbpldpaa
set_option linter.unusedVariables false
set_option linter.unusedSimpArgs false
namespace Cal
open Go.RowKit Mem Go.Proofs.YtlnkdgjlbpldpaaW.PrintLast Go.Maps

theorem leap_400 (y : Int) : leapI (y + 400) = leapI y := by
  have h4 : (y + 400) % 4 = y % 4 := by omega
  have h100 : (y + 400) % 100 = y % 100 := by omega
  have h400 : (y + 400) % 400 = y % 400 := by omega
  unfold leapI leapB
  rw [h4, h100, h400]
theorem num_400 (y m d : Int) : numI (y + 400) m d = numI y m d + 146097 := by
  unfold numI
  rw [leap_400]
  have : ysI (y + 400) = ysI y + 146097 := by unfold ysI; omega
  rw [this]
  split <;> omega
theorem right_400 {y m d : Int} (h : Right y m d) (hy : y + 400 ≤ 9999) : Right (y + 400) m d :=
  ⟨by have := h.y1; omega, hy, h.m1, h.m2, h.d1, by have := h.d2; unfold lengthI at *; rw [leap_400]; exact this⟩
theorem r_yes {y m d : Int} (h : Right y m d) (w : World) : Calls Try.prog 8 #[.agg #[.int .i64 y, .int .i64 m, .int .i64 d]] w fun e w' => e = .returned (.bool true) ∧ Below w.heap.size w w' := right_yes y m d w h
theorem r_no {y m d : Int} (h : ¬ Right y m d) (w : World) : Calls Try.prog 8 #[.agg #[.int .i64 y, .int .i64 m, .int .i64 d]] w fun e w' => e = .returned (.bool false) ∧ Below w.heap.size w w' := right_no y m d w h
/-- a date is ahead of another just if its number is. -/
theorem ahead_num {a0 a1 a2 b0 b1 b2 : Int} (ha : Right a0 a1 a2) (hb : Right b0 b1 b2) : (a0 < b0 ∨ a0 = b0 ∧ (a1 < b1 ∨ a1 = b1 ∧ a2 < b2)) ↔ numI a0 a1 a2 < numI b0 b1 b2 := by
  constructor
  · exact fun h => ha.lt hb h
  · intro h
    by_cases h2 : a0 < b0 ∨ a0 = b0 ∧ (a1 < b1 ∨ a1 = b1 ∧ a2 < b2)
    · exact h2
    · exfalso
      by_cases h3 : b0 < a0 ∨ b0 = a0 ∧ (b1 < a1 ∨ b1 = a1 ∧ b2 < a2)
      · have := hb.lt ha h3
        omega
      · have e : a0 = b0 ∧ a1 = b1 ∧ a2 = b2 := by omega
        obtain ⟨rfl, rfl, rfl⟩ := e
        omega
theorem ahead_is {a0 a1 a2 b0 b1 b2 : Int} (ha : Right a0 a1 a2) (hb : Right b0 b1 b2) (w : World) : Calls Try.prog 12 #[.agg #[.int .i64 a0, .int .i64 a1, .int .i64 a2], .agg #[.int .i64 b0, .int .i64 b1, .int .i64 b2]] w fun e w' => e = .returned (.bool (decide (numI a0 a1 a2 < numI b0 b1 b2))) ∧ Below w.heap.size w w' :=
  (aheadL_any a0 a1 a2 b0 b1 b2 w).mono (fun e w' ⟨q, hq, he, hb'⟩ => by
    have : q = decide (numI a0 a1 a2 < numI b0 b1 b2) := by
      cases q
      · exact (decide_eq_false (fun h => by have := hq.2 ((ahead_num ha hb).2 h); cases this)).symm
      · exact (decide_eq_true ((ahead_num ha hb).1 (hq.1 rfl))).symm
    rw [← this]
    exact ⟨he, hb'⟩)
set_option maxHeartbeats 32000000 in
set_option maxRecDepth 1000000 in
theorem back_any (a0 a1 a2 b0 b1 b2 n : Int) (w : World) : Calls Try.prog 3 #[.agg #[.int .i64 a0, .int .i64 a1, .int .i64 a2], .agg #[.int .i64 b0, .int .i64 b1, .int .i64 b2], .int .i64 n] w fun e w' => e = .returned (.bool true) ∧ Below w.heap.size w w' := by
  have HB0 : Held (Below w.heap.size w ((w.alloc (.cells #[.int .i64 a0, .int .i64 a1, .int .i64 a2] 23)).alloc (.cells #[.int .i64 b0, .int .i64 b1, .int .i64 b2] 23))) := ⟨((Below.refl _ _).alloc (Nat.le_refl _) _).alloc (by simp) _⟩
  have HN0 := Held.mk ((Blk.new w 23 #[.int .i64 a0, .int .i64 a1, .int .i64 a2]).alloc (.cells #[.int .i64 b0, .int .i64 b1, .int .i64 b2] 23))
  have HM0' := Blk.new (w.alloc (.cells #[.int .i64 a0, .int .i64 a1, .int .i64 a2] 23)) 23 #[.int .i64 b0, .int .i64 b1, .int .i64 b2]
  simp only [World.size_alloc] at HM0'
  have HM0 := Held.mk HM0'
  clear HM0'
  have k0 : ((w.alloc (.cells #[.int .i64 a0, .int .i64 a1, .int .i64 a2] 23)).alloc (.cells #[.int .i64 b0, .int .i64 b1, .int .i64 b2] 23)).cell? ⟨w.heap.size, 0, none⟩ = some (.int .i64 a0) := HN0.out.cell 0
  have k1 : ((w.alloc (.cells #[.int .i64 a0, .int .i64 a1, .int .i64 a2] 23)).alloc (.cells #[.int .i64 b0, .int .i64 b1, .int .i64 b2] 23)).cell? ⟨w.heap.size, 1, none⟩ = some (.int .i64 a1) := HN0.out.cell 1
  have k2 : ((w.alloc (.cells #[.int .i64 a0, .int .i64 a1, .int .i64 a2] 23)).alloc (.cells #[.int .i64 b0, .int .i64 b1, .int .i64 b2] 23)).cell? ⟨w.heap.size, 2, none⟩ = some (.int .i64 a2) := HN0.out.cell 2
  generalize hW0 : w.heap.size = W0 at *
  have HW0 := Held.mk hW0
  clear hW0
  go_enter Try.func3, Try.ntmps3
  go_wp2_with fail
  generalize (w.alloc (.cells #[.int .i64 a0, .int .i64 a1, .int .i64 a2] 23)).alloc (.cells #[.int .i64 b0, .int .i64 b1, .int .i64 b2] 23) = x0 at *
  clear k0 k1 k2
  rw [HW0.out]
  by_cases hRA : Right a0 a1 a2
  · by_cases hRB : Right b0 b1 b2
    · refine (number_in a0 a1 a2 x0 hRA).mono ?_
      rintro e x1 ⟨rfl, hb⟩
      have HRA := Held.mk hRA
      obtain ⟨ha1, ha2⟩ := hRA.last
      have hay1 := hRA.y1
      have hay2 := hRA.y2
      obtain ⟨xa, hxa⟩ : ∃ xa, numI a0 a1 a2 = xa := ⟨_, rfl⟩
      rw [hxa] at ha1 ha2 ⊢
      have Hxa := Held.mk hxa
      clear hxa
      clear hRA
      have HB1 : Held (Below W0 w x1) := ⟨HB0.out.trans (hb.mono (by have := HB0.out.size; rw [HW0.out] at this; exact this))⟩
      have HN1 := Held.mk (HN0.out.keep (Keep.of_below hb (fun _ => False)) (fun h => h))
      have HM1 := Held.mk (HM0.out.keep (Keep.of_below hb (fun _ => False)) (fun h => h))
      clear hb HB0 HN0 HM0
      have k0 := HN1.out.cell 0
      have k1 := HN1.out.cell 1
      have k2 := HN1.out.cell 2
      have j0 := HM1.out.cell 0
      have j1 := HM1.out.cell 1
      have j2 := HM1.out.cell 2
      simp at k0 k1 k2 j0 j1 j2
      go_wp2_with fail
      refine (number_in b0 b1 b2 x1 hRB).mono ?_
      rintro e x2 ⟨rfl, hb⟩
      have HRB := Held.mk hRB
      obtain ⟨hb1, hb2⟩ := hRB.last
      obtain ⟨xb, hxb⟩ : ∃ xb, numI b0 b1 b2 = xb := ⟨_, rfl⟩
      rw [hxb] at hb1 hb2 ⊢
      have Hxb := Held.mk hxb
      clear hxb
      clear hRB k0 k1 k2 j0 j1 j2
      have HB2 : Held (Below W0 w x2) := ⟨HB1.out.trans (hb.mono (by have := HB1.out.size; rw [HW0.out] at this; exact this))⟩
      have HN2 := Held.mk (HN1.out.keep (Keep.of_below hb (fun _ => False)) (fun h => h))
      have HM2 := Held.mk (HM1.out.keep (Keep.of_below hb (fun _ => False)) (fun h => h))
      clear hb HB1 HN1 HM1
      have k0 := HN2.out.cell 0
      have k1 := HN2.out.cell 1
      have k2 := HN2.out.cell 2
      have j0 := HM2.out.cell 0
      have j1 := HM2.out.cell 1
      have j2 := HM2.out.cell 2
      simp at k0 k1 k2 j0 j1 j2
      have nk0 := HN2.out.lt
      have nj0 := HM2.out.lt
      go_wp2_with fail
      refine start_ (n := 16) (S := fun w' => w'.cell? ⟨W0, 0, none⟩ = some (.int .i64 a0) ∧ w'.cell? ⟨W0, 1, none⟩ = some (.int .i64 a1) ∧ w'.cell? ⟨W0, 2, none⟩ = some (.int .i64 a2) ∧ w'.cell? ⟨W0 + 1, 0, none⟩ = some (.int .i64 b0) ∧ w'.cell? ⟨W0 + 1, 1, none⟩ = some (.int .i64 b1) ∧ w'.cell? ⟨W0 + 1, 2, none⟩ = some (.int .i64 b2)) (ds := []) #[false, false, false, false, false, false, false, false, false, false, false, false, false, false, false, false] (by kernel_rfl) rfl rfl ⟨k0, k1, k2, j0, j1, j2⟩ (fun hHeld => ?_)
      refine pure_ (i := 0) (N := some 31) (v := ?_) (a' := ?_) #[true, false, false, false, false, false, false, false, false, false, false, false, false, false, false, false] rfl rfl (by kernel_rfl) (fun _ _ _ h => h) (Or.inl ⟨by rfl, ?_⟩) ?_ ?_
      rotate_left
      · intro w'
        go_simp
        with_reducible rfl
      rotate_left
      · simp only [Act.put, List.setIfInBounds_toArray, List.set_cons_zero, List.set_cons_succ, i64_w, i32_w]
        rfl
      refine pure_ (i := 1) (N := some 32) (v := ?_) (a' := ?_) #[true, true, false, false, false, false, false, false, false, false, false, false, false, false, false, false] rfl rfl (by kernel_rfl) (fun _ _ _ h => h) (Or.inl ⟨by rfl, ?_⟩) ?_ ?_
      rotate_left
      · intro w'
        go_simp
        with_reducible rfl
      rotate_left
      · simp only [Act.put, List.setIfInBounds_toArray, List.set_cons_zero, List.set_cons_succ, i64_w, i32_w]
        rfl
      refine take_ (i := 2) (N := some 33) (v := ?_) (a' := ?_) #[true, true, true, false, false, false, false, false, false, false, false, false, false, false, false, false] rfl rfl (by kernel_rfl) (fun _ _ _ h => h) (Or.inl ⟨by rfl, ?_⟩) hHeld ?_ ?_
      rotate_left
      · rintro w' ⟨s0, s1, s2, s3, s4, s5⟩
        go_simp
        with_reducible rfl
      rotate_left
      · simp only [Act.put, List.setIfInBounds_toArray, List.set_cons_zero, List.set_cons_succ, i64_w, i32_w]
        rfl
      refine one_ (i := 3) (N := some 34) #[true, true, true, true, false, false, false, false, false, false, false, false, false, false, false, false] rfl rfl (by kernel_rfl) (by decide) (fun K hK => ?_)
      refine goes_ Try.func8 (by kernel_rfl) rfl #[.agg #[.int .i64 a0, .int .i64 a1, .int .i64 a2]] (by rfl) rfl rfl (by simp only [List.map_toArray, List.map_cons, List.map_nil]; rfl) ?_
      with_reducible refine (r_yes HRA.out _).mono ?_
      rintro e x3 ⟨rfl, hb⟩
      refine ⟨_, rfl, ?_⟩
      have HB3 : Held (Below W0 w x3) := ⟨HB2.out.drew.trans (hb.mono (by have := HB2.out.size; rw [HW0.out] at this; exact this))⟩
      have HN3 := Held.mk (HN2.out.drew.keep (Keep.of_below hb (fun _ => False)) (fun h => h))
      have HM3 := Held.mk (HM2.out.drew.keep (Keep.of_below hb (fun _ => False)) (fun h => h))
      have ck0 := HN3.out.cell 0
      have ck1 := HN3.out.cell 1
      have ck2 := HN3.out.cell 2
      have cj0 := HM3.out.cell 0
      have cj1 := HM3.out.cell 1
      have cj2 := HM3.out.cell 2
      simp at ck0 ck1 ck2 cj0 cj1 cj2
      clear hb HB2 HN2 HM2
      refine hK.out _ _ ⟨ck0, ck1, ck2, cj0, cj1, cj2⟩ (fun hHeld => ?_)
      clear hK K
      refine norm_ (a' := ?_) ?_ ?_
      rotate_left
      · show Act.put _ (some 34) _ = _
        simp only [Act.put, List.setIfInBounds_toArray, List.set_cons_zero, List.set_cons_succ, i64_w, i32_w]
        rfl
      refine pure_ (i := 4) (N := some 35) (v := ?_) (a' := ?_) #[true, true, true, true, true, false, false, false, false, false, false, false, false, false, false, false] rfl rfl (by kernel_rfl) (fun _ _ _ h => h) (Or.inl ⟨by rfl, ?_⟩) ?_ ?_
      rotate_left
      · intro w'
        go_simp
        with_reducible rfl
      rotate_left
      · simp only [Act.put, List.setIfInBounds_toArray, List.set_cons_zero, List.set_cons_succ, i64_w, i32_w]
        rfl
      refine pure_ (i := 5) (N := some 36) (v := ?_) (a' := ?_) #[true, true, true, true, true, true, false, false, false, false, false, false, false, false, false, false] rfl rfl (by kernel_rfl) (fun _ _ _ h => h) (Or.inl ⟨by rfl, ?_⟩) ?_ ?_
      rotate_left
      · intro w'
        go_simp
        with_reducible rfl
      rotate_left
      · simp only [Act.put, List.setIfInBounds_toArray, List.set_cons_zero, List.set_cons_succ, i64_w, i32_w]
        rfl
      refine pure_ (i := 6) (N := some 37) (v := ?_) (a' := ?_) #[true, true, true, true, true, true, true, false, false, false, false, false, false, false, false, false] rfl rfl (by kernel_rfl) (fun _ _ _ h => h) (Or.inl ⟨by rfl, ?_⟩) ?_ ?_
      rotate_left
      · intro w'
        go_simp
        with_reducible rfl
      rotate_left
      · simp only [Act.put, List.setIfInBounds_toArray, List.set_cons_zero, List.set_cons_succ, i64_w, i32_w]
        rfl
      refine pure_ (i := 7) (N := some 38) (v := ?_) (a' := ?_) #[true, true, true, true, true, true, true, true, false, false, false, false, false, false, false, false] rfl rfl (by kernel_rfl) (fun _ _ _ h => h) (Or.inl ⟨by rfl, ?_⟩) ?_ ?_
      rotate_left
      · intro w'
        go_simp
        with_reducible rfl
      rotate_left
      · simp only [Act.put, List.setIfInBounds_toArray, List.set_cons_zero, List.set_cons_succ, i64_w, i32_w]
        rfl
      refine take_ (i := 8) (N := some 39) (v := ?_) (a' := ?_) #[true, true, true, true, true, true, true, true, true, false, false, false, false, false, false, false] rfl rfl (by kernel_rfl) (fun _ _ _ h => h) (Or.inl ⟨by rfl, ?_⟩) hHeld ?_ ?_
      rotate_left
      · rintro w' ⟨s0, s1, s2, s3, s4, s5⟩
        go_simp
        with_reducible rfl
      rotate_left
      · simp only [Act.put, List.setIfInBounds_toArray, List.set_cons_zero, List.set_cons_succ, i64_w, i32_w]
        rfl
      refine one_ (i := 9) (N := some 40) #[true, true, true, true, true, true, true, true, true, true, false, false, false, false, false, false] rfl rfl (by kernel_rfl) (by decide) (fun K hK => ?_)
      refine goes_ Try.func8 (by kernel_rfl) rfl #[.agg #[.int .i64 b0, .int .i64 b1, .int .i64 b2]] (by rfl) rfl rfl (by simp only [List.map_toArray, List.map_cons, List.map_nil]; rfl) ?_
      with_reducible refine (r_yes HRB.out _).mono ?_
      rintro e x4 ⟨rfl, hb⟩
      refine ⟨_, rfl, ?_⟩
      have HB4 : Held (Below W0 w x4) := ⟨HB3.out.trans (hb.mono (by have := HB3.out.size; rw [HW0.out] at this; exact this))⟩
      have HN4 := Held.mk (HN3.out.keep (Keep.of_below hb (fun _ => False)) (fun h => h))
      have HM4 := Held.mk (HM3.out.keep (Keep.of_below hb (fun _ => False)) (fun h => h))
      have dk0 := HN4.out.cell 0
      have dk1 := HN4.out.cell 1
      have dk2 := HN4.out.cell 2
      have dj0 := HM4.out.cell 0
      have dj1 := HM4.out.cell 1
      have dj2 := HM4.out.cell 2
      simp at dk0 dk1 dk2 dj0 dj1 dj2
      clear hb HB3 HN3 HM3
      refine hK.out _ _ ⟨dk0, dk1, dk2, dj0, dj1, dj2⟩ (fun hHeld => ?_)
      clear hK K
      refine norm_ (a' := ?_) ?_ ?_
      rotate_left
      · show Act.put _ (some 40) _ = _
        simp only [Act.put, List.setIfInBounds_toArray, List.set_cons_zero, List.set_cons_succ, i64_w, i32_w]
        rfl
      refine pure_ (i := 10) (N := some 41) (v := ?_) (a' := ?_) #[true, true, true, true, true, true, true, true, true, true, true, false, false, false, false, false] rfl rfl (by kernel_rfl) (fun _ _ _ h => h) (Or.inl ⟨by rfl, ?_⟩) ?_ ?_
      rotate_left
      · intro w'
        go_simp
        with_reducible rfl
      rotate_left
      · simp only [Act.put, List.setIfInBounds_toArray, List.set_cons_zero, List.set_cons_succ, i64_w, i32_w]
        rfl
      refine pure_ (i := 11) (N := some 42) (v := ?_) (a' := ?_) #[true, true, true, true, true, true, true, true, true, true, true, true, false, false, false, false] rfl rfl (by kernel_rfl) (fun _ _ _ h => h) (Or.inl ⟨by rfl, ?_⟩) ?_ ?_
      rotate_left
      · intro w'
        go_simp
        with_reducible rfl
      rotate_left
      · simp only [Act.put, List.setIfInBounds_toArray, List.set_cons_zero, List.set_cons_succ, i64_w, i32_w]
        rfl
      refine pure_ (i := 12) (N := some 43) (v := ?_) (a' := ?_) #[true, true, true, true, true, true, true, true, true, true, true, true, true, false, false, false] rfl rfl (by kernel_rfl) (fun _ _ _ h => h) (Or.inl ⟨by rfl, ?_⟩) ?_ ?_
      rotate_left
      · intro w'
        go_simp
        with_reducible rfl
      rotate_left
      · simp only [Act.put, List.setIfInBounds_toArray, List.set_cons_zero, List.set_cons_succ, i64_w, i32_w]
        rfl
      refine one_ (i := 13) (N := some 44) #[true, true, true, true, true, true, true, true, true, true, true, true, true, true, false, false] rfl rfl (by kernel_rfl) (by decide) (fun K hK => ?_)
      refine goes_ Try.func9 (by kernel_rfl) rfl #[] (by rfl) rfl rfl (by first | (simp only [List.map_toArray, List.map_cons, List.map_nil]; done) | (simp only [List.map_toArray, List.map_cons, List.map_nil]; rfl) | rfl) ?_
      with_reducible refine (shown_any _).mono ?_
      rintro e x5 ⟨rfl, hb⟩
      refine ⟨_, rfl, ?_⟩
      have HB5 : Held (Below W0 w x5) := ⟨HB4.out.trans (hb.mono (by have := HB4.out.size; rw [HW0.out] at this; exact this))⟩
      have HN5 := Held.mk (HN4.out.keep (Keep.of_below hb (fun _ => False)) (fun h => h))
      have HM5 := Held.mk (HM4.out.keep (Keep.of_below hb (fun _ => False)) (fun h => h))
      have ek0 := HN5.out.cell 0
      have ek1 := HN5.out.cell 1
      have ek2 := HN5.out.cell 2
      have ej0 := HM5.out.cell 0
      have ej1 := HM5.out.cell 1
      have ej2 := HM5.out.cell 2
      simp at ek0 ek1 ek2 ej0 ej1 ej2
      clear hb HB4 HN4 HM4
      refine hK.out _ _ ⟨ek0, ek1, ek2, ej0, ej1, ej2⟩ (fun hHeld => ?_)
      clear hK K
      refine norm_ (a' := ?_) ?_ ?_
      rotate_left
      · show Act.put _ (some 44) _ = _
        simp only [Act.put, List.setIfInBounds_toArray, List.set_cons_zero, List.set_cons_succ, i64_w, i32_w]
        rfl
      refine pure_ (i := 14) (N := some 45) (v := ?_) (a' := ?_) #[true, true, true, true, true, true, true, true, true, true, true, true, true, true, true, false] rfl rfl (by kernel_rfl) (fun _ _ _ h => h) (Or.inl ⟨by rfl, ?_⟩) ?_ ?_
      rotate_left
      · intro w'
        go_simp
        with_reducible rfl
      rotate_left
      · simp only [Act.put, List.setIfInBounds_toArray, List.set_cons_zero, List.set_cons_succ, i64_w, i32_w]
        rfl
      refine pure_ (i := 15) (N := some 46) (v := ?_) (a' := ?_) #[true, true, true, true, true, true, true, true, true, true, true, true, true, true, true, true] rfl rfl (by kernel_rfl) (fun _ _ _ h => h) (Or.inl ⟨by rfl, ?_⟩) ?_ ?_
      rotate_left
      · intro w'
        go_simp
        with_reducible rfl
      rotate_left
      · simp only [Act.put, List.setIfInBounds_toArray, List.set_cons_zero, List.set_cons_succ, i64_w, i32_w]
        rfl
      refine done_ (by kernel_rfl) ?_
      clear hHeld k0 k1 k2 j0 j1 j2 ck0 ck1 ck2 cj0 cj1 cj2 dk0 dk1 dk2 dj0 dj1 dj2 ek0 ek1 ek2 ej0 ej1 ej2
      go_wp2_with fail
      refine (of_in xa x5 ha1 ha2).mono ?_
      rintro e x6 ⟨y, m, d, rfl, hR, hN, hb⟩
      obtain ⟨rfl, rfl, rfl⟩ := hR.inj HRA.out (by rw [hN, Hxa.out])
      clear hR hN
      have HB6 : Held (Below W0 w x6) := ⟨HB5.out.trans (hb.mono (by have := HB5.out.size; rw [HW0.out] at this; exact this))⟩
      have HN6 := Held.mk (HN5.out.keep (Keep.of_below hb (fun _ => False)) (fun h => h))
      have HM6 := Held.mk (HM5.out.keep (Keep.of_below hb (fun _ => False)) (fun h => h))
      clear hb HB5 HN5 HM5
      unfold Dt
      have k0 : (x6.alloc (.cells #[.int .i64 y, .int .i64 m, .int .i64 d] 23)).cell? ⟨W0, 0, none⟩ = some (.int .i64 y) := (HN6.out.alloc _).cell 0
      have k1 : (x6.alloc (.cells #[.int .i64 y, .int .i64 m, .int .i64 d] 23)).cell? ⟨W0, 1, none⟩ = some (.int .i64 m) := (HN6.out.alloc _).cell 1
      have k2 : (x6.alloc (.cells #[.int .i64 y, .int .i64 m, .int .i64 d] 23)).cell? ⟨W0, 2, none⟩ = some (.int .i64 d) := (HN6.out.alloc _).cell 2
      have l0 : ((x6.alloc (.cells #[.int .i64 y, .int .i64 m, .int .i64 d] 23)).alloc (.cells #[.int .i64 y, .int .i64 m, .int .i64 d] 23)).cell? ⟨W0, 0, none⟩ = some (.int .i64 y) := ((HN6.out.alloc _).alloc _).cell 0
      have l1 : ((x6.alloc (.cells #[.int .i64 y, .int .i64 m, .int .i64 d] 23)).alloc (.cells #[.int .i64 y, .int .i64 m, .int .i64 d] 23)).cell? ⟨W0, 1, none⟩ = some (.int .i64 m) := ((HN6.out.alloc _).alloc _).cell 1
      have l2 : ((x6.alloc (.cells #[.int .i64 y, .int .i64 m, .int .i64 d] 23)).alloc (.cells #[.int .i64 y, .int .i64 m, .int .i64 d] 23)).cell? ⟨W0, 2, none⟩ = some (.int .i64 d) := ((HN6.out.alloc _).alloc _).cell 2
      have HB7 : Held (Below W0 w ((x6.alloc (.cells #[.int .i64 y, .int .i64 m, .int .i64 d] 23)).alloc (.cells #[.int .i64 (y + 400), .int .i64 m, .int .i64 d] 23))) := ⟨(HB6.out.alloc (by have := HB6.out.size; rw [HW0.out] at this; exact this) _).alloc (by have := HB6.out.size; rw [HW0.out] at this; simp; omega) _⟩
      have HN7 := Held.mk ((HN6.out.alloc (.cells #[.int .i64 y, .int .i64 m, .int .i64 d] 23)).alloc (.cells #[.int .i64 (y + 400), .int .i64 m, .int .i64 d] 23))
      have HM7 := Held.mk ((HM6.out.alloc (.cells #[.int .i64 y, .int .i64 m, .int .i64 d] 23)).alloc (.cells #[.int .i64 (y + 400), .int .i64 m, .int .i64 d] 23))
      have HO7' := Blk.new (x6.alloc (.cells #[.int .i64 y, .int .i64 m, .int .i64 d] 23)) 23 #[.int .i64 (y + 400), .int .i64 m, .int .i64 d]
      simp only [World.size_alloc] at HO7'
      have HO7 := Held.mk HO7'
      clear HO7'
      go_wp2_with fail
      generalize (x6.alloc (.cells #[.int .i64 y, .int .i64 m, .int .i64 d] 23)).alloc (.cells #[.int .i64 (y + 400), .int .i64 m, .int .i64 d] 23) = x7 at *
      clear k0 k1 k2 l0 l1 l2 HB6 HN6 HM6
      generalize x6.heap.size + 1 = g7 at *
      have e400 : decide (y + 400 ≤ 9999) = true ∨ decide (y + 400 ≤ 9999) = false := by cases decide (y + 400 ≤ 9999) <;> simp
      rcases e400 with e400 | e400
      · have h400 : y + 400 ≤ 9999 := of_decide_eq_true e400
        have h4l := (right_400 HRA.out h400).last
        rw [num_400, Hxa.out] at h4l
        refine (number_in (y + 400) m d x7 (right_400 HRA.out h400)).mono ?_
        rintro e x8 ⟨rfl, hb⟩
        rw [num_400, Hxa.out]
        have HB8 : Held (Below W0 w x8) := ⟨HB7.out.trans (hb.mono (by have := HB7.out.size; rw [HW0.out] at this; exact this))⟩
        have HN8 := Held.mk (HN7.out.keep (Keep.of_below hb (fun _ => False)) (fun h => h))
        have HM8 := Held.mk (HM7.out.keep (Keep.of_below hb (fun _ => False)) (fun h => h))
        have HO8 := Held.mk (HO7.out.keep (Keep.of_below hb (fun _ => False)) (fun h => h))
        clear hb HB7 HN7 HM7 HO7
        go_wp2_with fail
        refine (weekday_in xa x8 ha1 ha2).mono ?_
        rintro e xq ⟨rfl, rfl⟩
        go_wp2_with fail
        refine (weekday_in (xa + 146097) x8 h4l.1 h4l.2).mono ?_
        rintro e xq ⟨rfl, rfl⟩
        rw [show (xa + 146097 + 6) % 7 = (xa + 6) % 7 from by omega]
        have o0 := HO8.out.cell 0
        simp at o0
        have hwr : wrap64 (xa + 146097) = xa + 146097 := IntWalk.wrap64_in _ (by omega)
        generalize (xa + 6) % 7 = wd at *
        have k0 := HN8.out.cell 0
        have k1 := HN8.out.cell 1
        have k2 := HN8.out.cell 2
        have j0 := HM8.out.cell 0
        have j1 := HM8.out.cell 1
        have j2 := HM8.out.cell 2
        simp at k0 k1 k2 j0 j1 j2
        go_wp2_with fail
        go_quiet (fail)
        have hneq : (y = b0 ∧ m = b1 ∧ d = b2) ∨ ¬ (y = b0 ∧ m = b1 ∧ d = b2) := Classical.em _
        have hxab : ¬ (y = b0 ∧ m = b1 ∧ d = b2) → (xa == xb) = false := fun h => beq_eq_false_iff_ne.2 (fun e => h (HRA.out.inj HRB.out (by rw [Hxa.out, Hxb.out, e])))
        have hc : (y = b0 ∧ m = b1 ∧ d = b2) ∨ ((xa == xb) = false ∧ (y == b0) = false) ∨ ((xa == xb) = false ∧ (y == b0) = true ∧ y = b0 ∧ (m == b1) = false) ∨ ((xa == xb) = false ∧ (y == b0) = true ∧ y = b0 ∧ (m == b1) = true ∧ m = b1 ∧ (d == b2) = false) := by
          by_cases h0 : y = b0
          · by_cases h1 : m = b1
            · by_cases h2 : d = b2
              · exact .inl ⟨h0, h1, h2⟩
              · exact .inr (.inr (.inr ⟨hxab (fun h => h2 h.2.2), by simp [h0], h0, by simp [h1], h1, by simp [h2]⟩))
            · exact .inr (.inr (.inl ⟨hxab (fun h => h1 h.2.1), by simp [h0], h0, by simp [h1]⟩))
          · exact .inr (.inl ⟨hxab (fun h => h0 h.1), by simp [h0]⟩)
        clear hneq hxab
        rcases hc with ⟨h0, h1, h2⟩ | ⟨c0, c1⟩ | ⟨c0, c1, h1, c2⟩ | ⟨c0, c1, h1, c2, h2, c3⟩
        · subst h0 h1 h2
          obtain rfl : xa = xb := by rw [← Hxa.out, ← Hxb.out]
          go_wp2_with fail
          refine (ahead_is HRA.out HRA.out _).mono ?_
          rintro e x9 ⟨rfl, hb⟩
          rw [Hxa.out, show decide (xa < xa) = false from decide_eq_false (Int.lt_irrefl xa)]
          have HB9 : Held (Below W0 w x9) := ⟨(below_drewN HB8.out _).trans (hb.mono (by have := HB8.out.size; rw [HW0.out] at this; exact this))⟩
          have HN9 := Held.mk ((HN8.out.drewN _).keep (Keep.of_below hb (fun _ => False)) (fun h => h))
          have HM9 := Held.mk ((HM8.out.drewN _).keep (Keep.of_below hb (fun _ => False)) (fun h => h))
          clear hb HB8 HN8 HM8 HO8 k0 k1 k2 j0 j1 j2 o0
          have k0 := HN9.out.cell 0
          have k1 := HN9.out.cell 1
          have k2 := HN9.out.cell 2
          have j0 := HM9.out.cell 0
          have j1 := HM9.out.cell 1
          have j2 := HM9.out.cell 2
          simp at k0 k1 k2 j0 j1 j2
          go_wp2_with fail
          by_cases hn : 1 ≤ n ∧ n ≤ 3652059
          · obtain ⟨hn1, hn2⟩ := hn
            have c91 : decide (n < 1) = false := decide_eq_false (by omega)
            have c92 : decide (3652059 < n) = false := decide_eq_false (by omega)
            refine (of_in n _ hn1 hn2).mono ?_
            rintro e z1 ⟨y', m', d', rfl, hR, hN, hb⟩
            have HR := Held.mk hR
            have HN := Held.mk hN
            have HZ1 : Held (Below W0 w z1) := ⟨HB9.out.trans (hb.mono (by have := HB9.out.size; rw [HW0.out] at this; exact this))⟩
            clear hb hR hN
            unfold Dt
            have HZ2 : Held (Below W0 w (z1.alloc (.cells #[.int .i64 y', .int .i64 m', .int .i64 d'] 23))) := ⟨HZ1.out.alloc (by have := HZ1.out.size; rw [HW0.out] at this; exact this) _⟩
            have HP2 := Held.mk (Blk.new z1 23 #[.int .i64 y', .int .i64 m', .int .i64 d'])
            go_wp2_with fail
            generalize z1.alloc (.cells #[.int .i64 y', .int .i64 m', .int .i64 d'] 23) = z2 at *
            refine (number_in y' m' d' z2 HR.out).mono ?_
            rintro e z3 ⟨rfl, hb⟩
            rw [HN.out]
            have HZ3 : Held (Below W0 w z3) := ⟨HZ2.out.trans (hb.mono (by have := HZ2.out.size; rw [HW0.out] at this; exact this))⟩
            have HP3 := Held.mk (HP2.out.keep (Keep.of_below hb (fun _ => False)) (fun h => h))
            have q0 := HP3.out.cell 0
            have q1 := HP3.out.cell 1
            have q2 := HP3.out.cell 2
            simp at q0 q1 q2
            clear hb
            go_wp2_with fail
            refine (r_yes HR.out z3).mono ?_
            rintro e z4 ⟨rfl, hb⟩
            have HZ4 : Held (Below W0 w z4) := ⟨HZ3.out.trans (hb.mono (by have := HZ3.out.size; rw [HW0.out] at this; exact this))⟩
            clear hb
            go_wp2
            go_ret
            exact ⟨rfl, HZ4.out⟩
          · have hcn : decide (n < 1) = true ∨ decide (n < 1) = false ∧ decide (3652059 < n) = true := by
              simp only [decide_eq_true_eq, decide_eq_false_iff_not]
              omega
            refine (of_out n _ hn).mono ?_
            rintro e z1 ⟨rfl, hb⟩
            have HZ1 : Held (Below W0 w z1) := ⟨HB9.out.trans (hb.mono (by have := HB9.out.size; rw [HW0.out] at this; exact this))⟩
            have HZ2 := HZ1.out.size
            rw [HW0.out] at HZ2
            clear hb hn
            unfold Dt errDateV
            rcases hcn with c91 | ⟨c91, c92⟩
            · go_wp2
              go_ret
              exact ⟨rfl, HZ1.out.alloc HZ2 _⟩
            · go_wp2
              go_ret
              exact ⟨rfl, HZ1.out.alloc HZ2 _⟩
        · have hnn : True := trivial
          go_wp2_with fail
          refine (ahead_is HRA.out HRB.out _).mono ?_
          rintro e x9 ⟨rfl, hb⟩
          rw [Hxa.out, Hxb.out]
          have HB9 : Held (Below W0 w x9) := ⟨(below_drewN HB8.out _).trans (hb.mono (by have := HB8.out.size; rw [HW0.out] at this; exact this))⟩
          have HN9 := Held.mk ((HN8.out.drewN _).keep (Keep.of_below hb (fun _ => False)) (fun h => h))
          have HM9 := Held.mk ((HM8.out.drewN _).keep (Keep.of_below hb (fun _ => False)) (fun h => h))
          clear hb HB8 HN8 HM8 HO8 k0 k1 k2 j0 j1 j2 o0
          have k0 := HN9.out.cell 0
          have k1 := HN9.out.cell 1
          have k2 := HN9.out.cell 2
          have j0 := HM9.out.cell 0
          have j1 := HM9.out.cell 1
          have j2 := HM9.out.cell 2
          simp at k0 k1 k2 j0 j1 j2
          generalize hdb : decide (xa < xb) = db at *
          go_wp2_with fail
          by_cases hn : 1 ≤ n ∧ n ≤ 3652059
          · obtain ⟨hn1, hn2⟩ := hn
            have c91 : decide (n < 1) = false := decide_eq_false (by omega)
            have c92 : decide (3652059 < n) = false := decide_eq_false (by omega)
            refine (of_in n _ hn1 hn2).mono ?_
            rintro e z1 ⟨y', m', d', rfl, hR, hN, hb⟩
            have HR := Held.mk hR
            have HN := Held.mk hN
            have HZ1 : Held (Below W0 w z1) := ⟨HB9.out.trans (hb.mono (by have := HB9.out.size; rw [HW0.out] at this; exact this))⟩
            clear hb hR hN
            unfold Dt
            have HZ2 : Held (Below W0 w (z1.alloc (.cells #[.int .i64 y', .int .i64 m', .int .i64 d'] 23))) := ⟨HZ1.out.alloc (by have := HZ1.out.size; rw [HW0.out] at this; exact this) _⟩
            have HP2 := Held.mk (Blk.new z1 23 #[.int .i64 y', .int .i64 m', .int .i64 d'])
            go_wp2_with fail
            generalize z1.alloc (.cells #[.int .i64 y', .int .i64 m', .int .i64 d'] 23) = z2 at *
            refine (number_in y' m' d' z2 HR.out).mono ?_
            rintro e z3 ⟨rfl, hb⟩
            rw [HN.out]
            have HZ3 : Held (Below W0 w z3) := ⟨HZ2.out.trans (hb.mono (by have := HZ2.out.size; rw [HW0.out] at this; exact this))⟩
            have HP3 := Held.mk (HP2.out.keep (Keep.of_below hb (fun _ => False)) (fun h => h))
            have q0 := HP3.out.cell 0
            have q1 := HP3.out.cell 1
            have q2 := HP3.out.cell 2
            simp at q0 q1 q2
            clear hb
            go_wp2_with fail
            refine (r_yes HR.out z3).mono ?_
            rintro e z4 ⟨rfl, hb⟩
            have HZ4 : Held (Below W0 w z4) := ⟨HZ3.out.trans (hb.mono (by have := HZ3.out.size; rw [HW0.out] at this; exact this))⟩
            clear hb
            go_wp2
            go_ret
            exact ⟨rfl, HZ4.out⟩
          · have hcn : decide (n < 1) = true ∨ decide (n < 1) = false ∧ decide (3652059 < n) = true := by
              simp only [decide_eq_true_eq, decide_eq_false_iff_not]
              omega
            refine (of_out n _ hn).mono ?_
            rintro e z1 ⟨rfl, hb⟩
            have HZ1 : Held (Below W0 w z1) := ⟨HB9.out.trans (hb.mono (by have := HB9.out.size; rw [HW0.out] at this; exact this))⟩
            have HZ2 := HZ1.out.size
            rw [HW0.out] at HZ2
            clear hb hn
            unfold Dt errDateV
            rcases hcn with c91 | ⟨c91, c92⟩
            · go_wp2
              go_ret
              exact ⟨rfl, HZ1.out.alloc HZ2 _⟩
            · go_wp2
              go_ret
              exact ⟨rfl, HZ1.out.alloc HZ2 _⟩
        · subst h1
          go_wp2_with fail
          refine (ahead_is HRA.out HRB.out _).mono ?_
          rintro e x9 ⟨rfl, hb⟩
          rw [Hxa.out, Hxb.out]
          have HB9 : Held (Below W0 w x9) := ⟨(below_drewN HB8.out _).trans (hb.mono (by have := HB8.out.size; rw [HW0.out] at this; exact this))⟩
          have HN9 := Held.mk ((HN8.out.drewN _).keep (Keep.of_below hb (fun _ => False)) (fun h => h))
          have HM9 := Held.mk ((HM8.out.drewN _).keep (Keep.of_below hb (fun _ => False)) (fun h => h))
          clear hb HB8 HN8 HM8 HO8 k0 k1 k2 j0 j1 j2 o0
          have k0 := HN9.out.cell 0
          have k1 := HN9.out.cell 1
          have k2 := HN9.out.cell 2
          have j0 := HM9.out.cell 0
          have j1 := HM9.out.cell 1
          have j2 := HM9.out.cell 2
          simp at k0 k1 k2 j0 j1 j2
          generalize hdb : decide (xa < xb) = db at *
          go_wp2_with fail
          by_cases hn : 1 ≤ n ∧ n ≤ 3652059
          · obtain ⟨hn1, hn2⟩ := hn
            have c91 : decide (n < 1) = false := decide_eq_false (by omega)
            have c92 : decide (3652059 < n) = false := decide_eq_false (by omega)
            refine (of_in n _ hn1 hn2).mono ?_
            rintro e z1 ⟨y', m', d', rfl, hR, hN, hb⟩
            have HR := Held.mk hR
            have HN := Held.mk hN
            have HZ1 : Held (Below W0 w z1) := ⟨HB9.out.trans (hb.mono (by have := HB9.out.size; rw [HW0.out] at this; exact this))⟩
            clear hb hR hN
            unfold Dt
            have HZ2 : Held (Below W0 w (z1.alloc (.cells #[.int .i64 y', .int .i64 m', .int .i64 d'] 23))) := ⟨HZ1.out.alloc (by have := HZ1.out.size; rw [HW0.out] at this; exact this) _⟩
            have HP2 := Held.mk (Blk.new z1 23 #[.int .i64 y', .int .i64 m', .int .i64 d'])
            go_wp2_with fail
            generalize z1.alloc (.cells #[.int .i64 y', .int .i64 m', .int .i64 d'] 23) = z2 at *
            refine (number_in y' m' d' z2 HR.out).mono ?_
            rintro e z3 ⟨rfl, hb⟩
            rw [HN.out]
            have HZ3 : Held (Below W0 w z3) := ⟨HZ2.out.trans (hb.mono (by have := HZ2.out.size; rw [HW0.out] at this; exact this))⟩
            have HP3 := Held.mk (HP2.out.keep (Keep.of_below hb (fun _ => False)) (fun h => h))
            have q0 := HP3.out.cell 0
            have q1 := HP3.out.cell 1
            have q2 := HP3.out.cell 2
            simp at q0 q1 q2
            clear hb
            go_wp2_with fail
            refine (r_yes HR.out z3).mono ?_
            rintro e z4 ⟨rfl, hb⟩
            have HZ4 : Held (Below W0 w z4) := ⟨HZ3.out.trans (hb.mono (by have := HZ3.out.size; rw [HW0.out] at this; exact this))⟩
            clear hb
            go_wp2
            go_ret
            exact ⟨rfl, HZ4.out⟩
          · have hcn : decide (n < 1) = true ∨ decide (n < 1) = false ∧ decide (3652059 < n) = true := by
              simp only [decide_eq_true_eq, decide_eq_false_iff_not]
              omega
            refine (of_out n _ hn).mono ?_
            rintro e z1 ⟨rfl, hb⟩
            have HZ1 : Held (Below W0 w z1) := ⟨HB9.out.trans (hb.mono (by have := HB9.out.size; rw [HW0.out] at this; exact this))⟩
            have HZ2 := HZ1.out.size
            rw [HW0.out] at HZ2
            clear hb hn
            unfold Dt errDateV
            rcases hcn with c91 | ⟨c91, c92⟩
            · go_wp2
              go_ret
              exact ⟨rfl, HZ1.out.alloc HZ2 _⟩
            · go_wp2
              go_ret
              exact ⟨rfl, HZ1.out.alloc HZ2 _⟩
        · subst h1 h2
          go_wp2_with fail
          refine (ahead_is HRA.out HRB.out _).mono ?_
          rintro e x9 ⟨rfl, hb⟩
          rw [Hxa.out, Hxb.out]
          have HB9 : Held (Below W0 w x9) := ⟨(below_drewN HB8.out _).trans (hb.mono (by have := HB8.out.size; rw [HW0.out] at this; exact this))⟩
          have HN9 := Held.mk ((HN8.out.drewN _).keep (Keep.of_below hb (fun _ => False)) (fun h => h))
          have HM9 := Held.mk ((HM8.out.drewN _).keep (Keep.of_below hb (fun _ => False)) (fun h => h))
          clear hb HB8 HN8 HM8 HO8 k0 k1 k2 j0 j1 j2 o0
          have k0 := HN9.out.cell 0
          have k1 := HN9.out.cell 1
          have k2 := HN9.out.cell 2
          have j0 := HM9.out.cell 0
          have j1 := HM9.out.cell 1
          have j2 := HM9.out.cell 2
          simp at k0 k1 k2 j0 j1 j2
          generalize hdb : decide (xa < xb) = db at *
          go_wp2_with fail
          by_cases hn : 1 ≤ n ∧ n ≤ 3652059
          · obtain ⟨hn1, hn2⟩ := hn
            have c91 : decide (n < 1) = false := decide_eq_false (by omega)
            have c92 : decide (3652059 < n) = false := decide_eq_false (by omega)
            refine (of_in n _ hn1 hn2).mono ?_
            rintro e z1 ⟨y', m', d', rfl, hR, hN, hb⟩
            have HR := Held.mk hR
            have HN := Held.mk hN
            have HZ1 : Held (Below W0 w z1) := ⟨HB9.out.trans (hb.mono (by have := HB9.out.size; rw [HW0.out] at this; exact this))⟩
            clear hb hR hN
            unfold Dt
            have HZ2 : Held (Below W0 w (z1.alloc (.cells #[.int .i64 y', .int .i64 m', .int .i64 d'] 23))) := ⟨HZ1.out.alloc (by have := HZ1.out.size; rw [HW0.out] at this; exact this) _⟩
            have HP2 := Held.mk (Blk.new z1 23 #[.int .i64 y', .int .i64 m', .int .i64 d'])
            go_wp2_with fail
            generalize z1.alloc (.cells #[.int .i64 y', .int .i64 m', .int .i64 d'] 23) = z2 at *
            refine (number_in y' m' d' z2 HR.out).mono ?_
            rintro e z3 ⟨rfl, hb⟩
            rw [HN.out]
            have HZ3 : Held (Below W0 w z3) := ⟨HZ2.out.trans (hb.mono (by have := HZ2.out.size; rw [HW0.out] at this; exact this))⟩
            have HP3 := Held.mk (HP2.out.keep (Keep.of_below hb (fun _ => False)) (fun h => h))
            have q0 := HP3.out.cell 0
            have q1 := HP3.out.cell 1
            have q2 := HP3.out.cell 2
            simp at q0 q1 q2
            clear hb
            go_wp2_with fail
            refine (r_yes HR.out z3).mono ?_
            rintro e z4 ⟨rfl, hb⟩
            have HZ4 : Held (Below W0 w z4) := ⟨HZ3.out.trans (hb.mono (by have := HZ3.out.size; rw [HW0.out] at this; exact this))⟩
            clear hb
            go_wp2
            go_ret
            exact ⟨rfl, HZ4.out⟩
          · have hcn : decide (n < 1) = true ∨ decide (n < 1) = false ∧ decide (3652059 < n) = true := by
              simp only [decide_eq_true_eq, decide_eq_false_iff_not]
              omega
            refine (of_out n _ hn).mono ?_
            rintro e z1 ⟨rfl, hb⟩
            have HZ1 : Held (Below W0 w z1) := ⟨HB9.out.trans (hb.mono (by have := HB9.out.size; rw [HW0.out] at this; exact this))⟩
            have HZ2 := HZ1.out.size
            rw [HW0.out] at HZ2
            clear hb hn
            unfold Dt errDateV
            rcases hcn with c91 | ⟨c91, c92⟩
            · go_wp2
              go_ret
              exact ⟨rfl, HZ1.out.alloc HZ2 _⟩
            · go_wp2
              go_ret
              exact ⟨rfl, HZ1.out.alloc HZ2 _⟩
      · have h400 : ¬ y + 400 ≤ 9999 := of_decide_eq_false e400
        refine (number_no (y + 400) m d x7 (fun h => h400 h.y2)).mono ?_
        rintro e x8 ⟨rfl, hb⟩
        unfold noDayV
        have HB8 : Held (Below W0 w x8) := ⟨HB7.out.trans (hb.mono (by have := HB7.out.size; rw [HW0.out] at this; exact this))⟩
        have HN8 := Held.mk (HN7.out.keep (Keep.of_below hb (fun _ => False)) (fun h => h))
        have HM8 := Held.mk (HM7.out.keep (Keep.of_below hb (fun _ => False)) (fun h => h))
        have HO8 := Held.mk (HO7.out.keep (Keep.of_below hb (fun _ => False)) (fun h => h))
        clear hb HB7 HN7 HM7 HO7
        go_wp2_with fail
        refine (weekday_in xa x8 ha1 ha2).mono ?_
        rintro e xq ⟨rfl, rfl⟩
        go_wp2_with fail
        refine (weekday_out 0 x8 (by decide)).mono ?_
        rintro e xq ⟨rfl, rfl⟩
        unfold noDayV
        have o0 := HO8.out.cell 0
        simp at o0
        have hwr : wrap64 (xa + 146097) = xa + 146097 := IntWalk.wrap64_in _ (by omega)
        generalize (xa + 6) % 7 = wd at *
        have k0 := HN8.out.cell 0
        have k1 := HN8.out.cell 1
        have k2 := HN8.out.cell 2
        have j0 := HM8.out.cell 0
        have j1 := HM8.out.cell 1
        have j2 := HM8.out.cell 2
        simp at k0 k1 k2 j0 j1 j2
        go_wp2_with fail
        go_quiet (fail)
        have hneq : (y = b0 ∧ m = b1 ∧ d = b2) ∨ ¬ (y = b0 ∧ m = b1 ∧ d = b2) := Classical.em _
        have hxab : ¬ (y = b0 ∧ m = b1 ∧ d = b2) → (xa == xb) = false := fun h => beq_eq_false_iff_ne.2 (fun e => h (HRA.out.inj HRB.out (by rw [Hxa.out, Hxb.out, e])))
        have hc : (y = b0 ∧ m = b1 ∧ d = b2) ∨ ((xa == xb) = false ∧ (y == b0) = false) ∨ ((xa == xb) = false ∧ (y == b0) = true ∧ y = b0 ∧ (m == b1) = false) ∨ ((xa == xb) = false ∧ (y == b0) = true ∧ y = b0 ∧ (m == b1) = true ∧ m = b1 ∧ (d == b2) = false) := by
          by_cases h0 : y = b0
          · by_cases h1 : m = b1
            · by_cases h2 : d = b2
              · exact .inl ⟨h0, h1, h2⟩
              · exact .inr (.inr (.inr ⟨hxab (fun h => h2 h.2.2), by simp [h0], h0, by simp [h1], h1, by simp [h2]⟩))
            · exact .inr (.inr (.inl ⟨hxab (fun h => h1 h.2.1), by simp [h0], h0, by simp [h1]⟩))
          · exact .inr (.inl ⟨hxab (fun h => h0 h.1), by simp [h0]⟩)
        clear hneq hxab
        rcases hc with ⟨h0, h1, h2⟩ | ⟨c0, c1⟩ | ⟨c0, c1, h1, c2⟩ | ⟨c0, c1, h1, c2, h2, c3⟩
        · subst h0 h1 h2
          obtain rfl : xa = xb := by rw [← Hxa.out, ← Hxb.out]
          go_wp2_with fail
          refine (ahead_is HRA.out HRA.out _).mono ?_
          rintro e x9 ⟨rfl, hb⟩
          rw [Hxa.out, show decide (xa < xa) = false from decide_eq_false (Int.lt_irrefl xa)]
          have HB9 : Held (Below W0 w x9) := ⟨(below_drewN HB8.out _).trans (hb.mono (by have := HB8.out.size; rw [HW0.out] at this; exact this))⟩
          have HN9 := Held.mk ((HN8.out.drewN _).keep (Keep.of_below hb (fun _ => False)) (fun h => h))
          have HM9 := Held.mk ((HM8.out.drewN _).keep (Keep.of_below hb (fun _ => False)) (fun h => h))
          clear hb HB8 HN8 HM8 HO8 k0 k1 k2 j0 j1 j2 o0
          have k0 := HN9.out.cell 0
          have k1 := HN9.out.cell 1
          have k2 := HN9.out.cell 2
          have j0 := HM9.out.cell 0
          have j1 := HM9.out.cell 1
          have j2 := HM9.out.cell 2
          simp at k0 k1 k2 j0 j1 j2
          go_wp2_with fail
          by_cases hn : 1 ≤ n ∧ n ≤ 3652059
          · obtain ⟨hn1, hn2⟩ := hn
            have c91 : decide (n < 1) = false := decide_eq_false (by omega)
            have c92 : decide (3652059 < n) = false := decide_eq_false (by omega)
            refine (of_in n _ hn1 hn2).mono ?_
            rintro e z1 ⟨y', m', d', rfl, hR, hN, hb⟩
            have HR := Held.mk hR
            have HN := Held.mk hN
            have HZ1 : Held (Below W0 w z1) := ⟨HB9.out.trans (hb.mono (by have := HB9.out.size; rw [HW0.out] at this; exact this))⟩
            clear hb hR hN
            unfold Dt
            have HZ2 : Held (Below W0 w (z1.alloc (.cells #[.int .i64 y', .int .i64 m', .int .i64 d'] 23))) := ⟨HZ1.out.alloc (by have := HZ1.out.size; rw [HW0.out] at this; exact this) _⟩
            have HP2 := Held.mk (Blk.new z1 23 #[.int .i64 y', .int .i64 m', .int .i64 d'])
            go_wp2_with fail
            generalize z1.alloc (.cells #[.int .i64 y', .int .i64 m', .int .i64 d'] 23) = z2 at *
            refine (number_in y' m' d' z2 HR.out).mono ?_
            rintro e z3 ⟨rfl, hb⟩
            rw [HN.out]
            have HZ3 : Held (Below W0 w z3) := ⟨HZ2.out.trans (hb.mono (by have := HZ2.out.size; rw [HW0.out] at this; exact this))⟩
            have HP3 := Held.mk (HP2.out.keep (Keep.of_below hb (fun _ => False)) (fun h => h))
            have q0 := HP3.out.cell 0
            have q1 := HP3.out.cell 1
            have q2 := HP3.out.cell 2
            simp at q0 q1 q2
            clear hb
            go_wp2_with fail
            refine (r_yes HR.out z3).mono ?_
            rintro e z4 ⟨rfl, hb⟩
            have HZ4 : Held (Below W0 w z4) := ⟨HZ3.out.trans (hb.mono (by have := HZ3.out.size; rw [HW0.out] at this; exact this))⟩
            clear hb
            go_wp2
            go_ret
            exact ⟨rfl, HZ4.out⟩
          · have hcn : decide (n < 1) = true ∨ decide (n < 1) = false ∧ decide (3652059 < n) = true := by
              simp only [decide_eq_true_eq, decide_eq_false_iff_not]
              omega
            refine (of_out n _ hn).mono ?_
            rintro e z1 ⟨rfl, hb⟩
            have HZ1 : Held (Below W0 w z1) := ⟨HB9.out.trans (hb.mono (by have := HB9.out.size; rw [HW0.out] at this; exact this))⟩
            have HZ2 := HZ1.out.size
            rw [HW0.out] at HZ2
            clear hb hn
            unfold Dt errDateV
            rcases hcn with c91 | ⟨c91, c92⟩
            · go_wp2
              go_ret
              exact ⟨rfl, HZ1.out.alloc HZ2 _⟩
            · go_wp2
              go_ret
              exact ⟨rfl, HZ1.out.alloc HZ2 _⟩
        · have hnn : True := trivial
          go_wp2_with fail
          refine (ahead_is HRA.out HRB.out _).mono ?_
          rintro e x9 ⟨rfl, hb⟩
          rw [Hxa.out, Hxb.out]
          have HB9 : Held (Below W0 w x9) := ⟨(below_drewN HB8.out _).trans (hb.mono (by have := HB8.out.size; rw [HW0.out] at this; exact this))⟩
          have HN9 := Held.mk ((HN8.out.drewN _).keep (Keep.of_below hb (fun _ => False)) (fun h => h))
          have HM9 := Held.mk ((HM8.out.drewN _).keep (Keep.of_below hb (fun _ => False)) (fun h => h))
          clear hb HB8 HN8 HM8 HO8 k0 k1 k2 j0 j1 j2 o0
          have k0 := HN9.out.cell 0
          have k1 := HN9.out.cell 1
          have k2 := HN9.out.cell 2
          have j0 := HM9.out.cell 0
          have j1 := HM9.out.cell 1
          have j2 := HM9.out.cell 2
          simp at k0 k1 k2 j0 j1 j2
          generalize hdb : decide (xa < xb) = db at *
          go_wp2_with fail
          by_cases hn : 1 ≤ n ∧ n ≤ 3652059
          · obtain ⟨hn1, hn2⟩ := hn
            have c91 : decide (n < 1) = false := decide_eq_false (by omega)
            have c92 : decide (3652059 < n) = false := decide_eq_false (by omega)
            refine (of_in n _ hn1 hn2).mono ?_
            rintro e z1 ⟨y', m', d', rfl, hR, hN, hb⟩
            have HR := Held.mk hR
            have HN := Held.mk hN
            have HZ1 : Held (Below W0 w z1) := ⟨HB9.out.trans (hb.mono (by have := HB9.out.size; rw [HW0.out] at this; exact this))⟩
            clear hb hR hN
            unfold Dt
            have HZ2 : Held (Below W0 w (z1.alloc (.cells #[.int .i64 y', .int .i64 m', .int .i64 d'] 23))) := ⟨HZ1.out.alloc (by have := HZ1.out.size; rw [HW0.out] at this; exact this) _⟩
            have HP2 := Held.mk (Blk.new z1 23 #[.int .i64 y', .int .i64 m', .int .i64 d'])
            go_wp2_with fail
            generalize z1.alloc (.cells #[.int .i64 y', .int .i64 m', .int .i64 d'] 23) = z2 at *
            refine (number_in y' m' d' z2 HR.out).mono ?_
            rintro e z3 ⟨rfl, hb⟩
            rw [HN.out]
            have HZ3 : Held (Below W0 w z3) := ⟨HZ2.out.trans (hb.mono (by have := HZ2.out.size; rw [HW0.out] at this; exact this))⟩
            have HP3 := Held.mk (HP2.out.keep (Keep.of_below hb (fun _ => False)) (fun h => h))
            have q0 := HP3.out.cell 0
            have q1 := HP3.out.cell 1
            have q2 := HP3.out.cell 2
            simp at q0 q1 q2
            clear hb
            go_wp2_with fail
            refine (r_yes HR.out z3).mono ?_
            rintro e z4 ⟨rfl, hb⟩
            have HZ4 : Held (Below W0 w z4) := ⟨HZ3.out.trans (hb.mono (by have := HZ3.out.size; rw [HW0.out] at this; exact this))⟩
            clear hb
            go_wp2
            go_ret
            exact ⟨rfl, HZ4.out⟩
          · have hcn : decide (n < 1) = true ∨ decide (n < 1) = false ∧ decide (3652059 < n) = true := by
              simp only [decide_eq_true_eq, decide_eq_false_iff_not]
              omega
            refine (of_out n _ hn).mono ?_
            rintro e z1 ⟨rfl, hb⟩
            have HZ1 : Held (Below W0 w z1) := ⟨HB9.out.trans (hb.mono (by have := HB9.out.size; rw [HW0.out] at this; exact this))⟩
            have HZ2 := HZ1.out.size
            rw [HW0.out] at HZ2
            clear hb hn
            unfold Dt errDateV
            rcases hcn with c91 | ⟨c91, c92⟩
            · go_wp2
              go_ret
              exact ⟨rfl, HZ1.out.alloc HZ2 _⟩
            · go_wp2
              go_ret
              exact ⟨rfl, HZ1.out.alloc HZ2 _⟩
        · subst h1
          go_wp2_with fail
          refine (ahead_is HRA.out HRB.out _).mono ?_
          rintro e x9 ⟨rfl, hb⟩
          rw [Hxa.out, Hxb.out]
          have HB9 : Held (Below W0 w x9) := ⟨(below_drewN HB8.out _).trans (hb.mono (by have := HB8.out.size; rw [HW0.out] at this; exact this))⟩
          have HN9 := Held.mk ((HN8.out.drewN _).keep (Keep.of_below hb (fun _ => False)) (fun h => h))
          have HM9 := Held.mk ((HM8.out.drewN _).keep (Keep.of_below hb (fun _ => False)) (fun h => h))
          clear hb HB8 HN8 HM8 HO8 k0 k1 k2 j0 j1 j2 o0
          have k0 := HN9.out.cell 0
          have k1 := HN9.out.cell 1
          have k2 := HN9.out.cell 2
          have j0 := HM9.out.cell 0
          have j1 := HM9.out.cell 1
          have j2 := HM9.out.cell 2
          simp at k0 k1 k2 j0 j1 j2
          generalize hdb : decide (xa < xb) = db at *
          go_wp2_with fail
          by_cases hn : 1 ≤ n ∧ n ≤ 3652059
          · obtain ⟨hn1, hn2⟩ := hn
            have c91 : decide (n < 1) = false := decide_eq_false (by omega)
            have c92 : decide (3652059 < n) = false := decide_eq_false (by omega)
            refine (of_in n _ hn1 hn2).mono ?_
            rintro e z1 ⟨y', m', d', rfl, hR, hN, hb⟩
            have HR := Held.mk hR
            have HN := Held.mk hN
            have HZ1 : Held (Below W0 w z1) := ⟨HB9.out.trans (hb.mono (by have := HB9.out.size; rw [HW0.out] at this; exact this))⟩
            clear hb hR hN
            unfold Dt
            have HZ2 : Held (Below W0 w (z1.alloc (.cells #[.int .i64 y', .int .i64 m', .int .i64 d'] 23))) := ⟨HZ1.out.alloc (by have := HZ1.out.size; rw [HW0.out] at this; exact this) _⟩
            have HP2 := Held.mk (Blk.new z1 23 #[.int .i64 y', .int .i64 m', .int .i64 d'])
            go_wp2_with fail
            generalize z1.alloc (.cells #[.int .i64 y', .int .i64 m', .int .i64 d'] 23) = z2 at *
            refine (number_in y' m' d' z2 HR.out).mono ?_
            rintro e z3 ⟨rfl, hb⟩
            rw [HN.out]
            have HZ3 : Held (Below W0 w z3) := ⟨HZ2.out.trans (hb.mono (by have := HZ2.out.size; rw [HW0.out] at this; exact this))⟩
            have HP3 := Held.mk (HP2.out.keep (Keep.of_below hb (fun _ => False)) (fun h => h))
            have q0 := HP3.out.cell 0
            have q1 := HP3.out.cell 1
            have q2 := HP3.out.cell 2
            simp at q0 q1 q2
            clear hb
            go_wp2_with fail
            refine (r_yes HR.out z3).mono ?_
            rintro e z4 ⟨rfl, hb⟩
            have HZ4 : Held (Below W0 w z4) := ⟨HZ3.out.trans (hb.mono (by have := HZ3.out.size; rw [HW0.out] at this; exact this))⟩
            clear hb
            go_wp2
            go_ret
            exact ⟨rfl, HZ4.out⟩
          · have hcn : decide (n < 1) = true ∨ decide (n < 1) = false ∧ decide (3652059 < n) = true := by
              simp only [decide_eq_true_eq, decide_eq_false_iff_not]
              omega
            refine (of_out n _ hn).mono ?_
            rintro e z1 ⟨rfl, hb⟩
            have HZ1 : Held (Below W0 w z1) := ⟨HB9.out.trans (hb.mono (by have := HB9.out.size; rw [HW0.out] at this; exact this))⟩
            have HZ2 := HZ1.out.size
            rw [HW0.out] at HZ2
            clear hb hn
            unfold Dt errDateV
            rcases hcn with c91 | ⟨c91, c92⟩
            · go_wp2
              go_ret
              exact ⟨rfl, HZ1.out.alloc HZ2 _⟩
            · go_wp2
              go_ret
              exact ⟨rfl, HZ1.out.alloc HZ2 _⟩
        · subst h1 h2
          go_wp2_with fail
          refine (ahead_is HRA.out HRB.out _).mono ?_
          rintro e x9 ⟨rfl, hb⟩
          rw [Hxa.out, Hxb.out]
          have HB9 : Held (Below W0 w x9) := ⟨(below_drewN HB8.out _).trans (hb.mono (by have := HB8.out.size; rw [HW0.out] at this; exact this))⟩
          have HN9 := Held.mk ((HN8.out.drewN _).keep (Keep.of_below hb (fun _ => False)) (fun h => h))
          have HM9 := Held.mk ((HM8.out.drewN _).keep (Keep.of_below hb (fun _ => False)) (fun h => h))
          clear hb HB8 HN8 HM8 HO8 k0 k1 k2 j0 j1 j2 o0
          have k0 := HN9.out.cell 0
          have k1 := HN9.out.cell 1
          have k2 := HN9.out.cell 2
          have j0 := HM9.out.cell 0
          have j1 := HM9.out.cell 1
          have j2 := HM9.out.cell 2
          simp at k0 k1 k2 j0 j1 j2
          generalize hdb : decide (xa < xb) = db at *
          go_wp2_with fail
          by_cases hn : 1 ≤ n ∧ n ≤ 3652059
          · obtain ⟨hn1, hn2⟩ := hn
            have c91 : decide (n < 1) = false := decide_eq_false (by omega)
            have c92 : decide (3652059 < n) = false := decide_eq_false (by omega)
            refine (of_in n _ hn1 hn2).mono ?_
            rintro e z1 ⟨y', m', d', rfl, hR, hN, hb⟩
            have HR := Held.mk hR
            have HN := Held.mk hN
            have HZ1 : Held (Below W0 w z1) := ⟨HB9.out.trans (hb.mono (by have := HB9.out.size; rw [HW0.out] at this; exact this))⟩
            clear hb hR hN
            unfold Dt
            have HZ2 : Held (Below W0 w (z1.alloc (.cells #[.int .i64 y', .int .i64 m', .int .i64 d'] 23))) := ⟨HZ1.out.alloc (by have := HZ1.out.size; rw [HW0.out] at this; exact this) _⟩
            have HP2 := Held.mk (Blk.new z1 23 #[.int .i64 y', .int .i64 m', .int .i64 d'])
            go_wp2_with fail
            generalize z1.alloc (.cells #[.int .i64 y', .int .i64 m', .int .i64 d'] 23) = z2 at *
            refine (number_in y' m' d' z2 HR.out).mono ?_
            rintro e z3 ⟨rfl, hb⟩
            rw [HN.out]
            have HZ3 : Held (Below W0 w z3) := ⟨HZ2.out.trans (hb.mono (by have := HZ2.out.size; rw [HW0.out] at this; exact this))⟩
            have HP3 := Held.mk (HP2.out.keep (Keep.of_below hb (fun _ => False)) (fun h => h))
            have q0 := HP3.out.cell 0
            have q1 := HP3.out.cell 1
            have q2 := HP3.out.cell 2
            simp at q0 q1 q2
            clear hb
            go_wp2_with fail
            refine (r_yes HR.out z3).mono ?_
            rintro e z4 ⟨rfl, hb⟩
            have HZ4 : Held (Below W0 w z4) := ⟨HZ3.out.trans (hb.mono (by have := HZ3.out.size; rw [HW0.out] at this; exact this))⟩
            clear hb
            go_wp2
            go_ret
            exact ⟨rfl, HZ4.out⟩
          · have hcn : decide (n < 1) = true ∨ decide (n < 1) = false ∧ decide (3652059 < n) = true := by
              simp only [decide_eq_true_eq, decide_eq_false_iff_not]
              omega
            refine (of_out n _ hn).mono ?_
            rintro e z1 ⟨rfl, hb⟩
            have HZ1 : Held (Below W0 w z1) := ⟨HB9.out.trans (hb.mono (by have := HB9.out.size; rw [HW0.out] at this; exact this))⟩
            have HZ2 := HZ1.out.size
            rw [HW0.out] at HZ2
            clear hb hn
            unfold Dt errDateV
            rcases hcn with c91 | ⟨c91, c92⟩
            · go_wp2
              go_ret
              exact ⟨rfl, HZ1.out.alloc HZ2 _⟩
            · go_wp2
              go_ret
              exact ⟨rfl, HZ1.out.alloc HZ2 _⟩
    · refine (number_in a0 a1 a2 x0 hRA).mono ?_
      rintro e x1 ⟨rfl, hb⟩
      have HRA := Held.mk hRA
      obtain ⟨ha1, ha2⟩ := hRA.last
      have hay1 := hRA.y1
      have hay2 := hRA.y2
      obtain ⟨xa, hxa⟩ : ∃ xa, numI a0 a1 a2 = xa := ⟨_, rfl⟩
      rw [hxa] at ha1 ha2 ⊢
      have Hxa := Held.mk hxa
      clear hxa
      clear hRA
      have HB1 : Held (Below W0 w x1) := ⟨HB0.out.trans (hb.mono (by have := HB0.out.size; rw [HW0.out] at this; exact this))⟩
      have HN1 := Held.mk (HN0.out.keep (Keep.of_below hb (fun _ => False)) (fun h => h))
      have HM1 := Held.mk (HM0.out.keep (Keep.of_below hb (fun _ => False)) (fun h => h))
      clear hb HB0 HN0 HM0
      have k0 := HN1.out.cell 0
      have k1 := HN1.out.cell 1
      have k2 := HN1.out.cell 2
      have j0 := HM1.out.cell 0
      have j1 := HM1.out.cell 1
      have j2 := HM1.out.cell 2
      simp at k0 k1 k2 j0 j1 j2
      go_wp2_with fail
      refine (number_no b0 b1 b2 x1 hRB).mono ?_
      rintro e x2 ⟨rfl, hb⟩
      have HRB := Held.mk hRB
      clear hRB k0 k1 k2 j0 j1 j2
      unfold noDayV
      have HB2 : Held (Below W0 w x2) := ⟨HB1.out.trans (hb.mono (by have := HB1.out.size; rw [HW0.out] at this; exact this))⟩
      have HN2 := Held.mk (HN1.out.keep (Keep.of_below hb (fun _ => False)) (fun h => h))
      have HM2 := Held.mk (HM1.out.keep (Keep.of_below hb (fun _ => False)) (fun h => h))
      clear hb HB1 HN1 HM1
      have k0 := HN2.out.cell 0
      have k1 := HN2.out.cell 1
      have k2 := HN2.out.cell 2
      have j0 := HM2.out.cell 0
      have j1 := HM2.out.cell 1
      have j2 := HM2.out.cell 2
      simp at k0 k1 k2 j0 j1 j2
      have nk0 := HN2.out.lt
      have nj0 := HM2.out.lt
      go_wp2_with fail
      refine start_ (n := 16) (S := fun w' => w'.cell? ⟨W0, 0, none⟩ = some (.int .i64 a0) ∧ w'.cell? ⟨W0, 1, none⟩ = some (.int .i64 a1) ∧ w'.cell? ⟨W0, 2, none⟩ = some (.int .i64 a2) ∧ w'.cell? ⟨W0 + 1, 0, none⟩ = some (.int .i64 b0) ∧ w'.cell? ⟨W0 + 1, 1, none⟩ = some (.int .i64 b1) ∧ w'.cell? ⟨W0 + 1, 2, none⟩ = some (.int .i64 b2)) (ds := []) #[false, false, false, false, false, false, false, false, false, false, false, false, false, false, false, false] (by kernel_rfl) rfl rfl ⟨k0, k1, k2, j0, j1, j2⟩ (fun hHeld => ?_)
      refine pure_ (i := 0) (N := some 31) (v := ?_) (a' := ?_) #[true, false, false, false, false, false, false, false, false, false, false, false, false, false, false, false] rfl rfl (by kernel_rfl) (fun _ _ _ h => h) (Or.inl ⟨by rfl, ?_⟩) ?_ ?_
      rotate_left
      · intro w'
        go_simp
        with_reducible rfl
      rotate_left
      · simp only [Act.put, List.setIfInBounds_toArray, List.set_cons_zero, List.set_cons_succ, i64_w, i32_w]
        rfl
      refine pure_ (i := 1) (N := some 32) (v := ?_) (a' := ?_) #[true, true, false, false, false, false, false, false, false, false, false, false, false, false, false, false] rfl rfl (by kernel_rfl) (fun _ _ _ h => h) (Or.inl ⟨by rfl, ?_⟩) ?_ ?_
      rotate_left
      · intro w'
        go_simp
        with_reducible rfl
      rotate_left
      · simp only [Act.put, List.setIfInBounds_toArray, List.set_cons_zero, List.set_cons_succ, i64_w, i32_w]
        rfl
      refine take_ (i := 2) (N := some 33) (v := ?_) (a' := ?_) #[true, true, true, false, false, false, false, false, false, false, false, false, false, false, false, false] rfl rfl (by kernel_rfl) (fun _ _ _ h => h) (Or.inl ⟨by rfl, ?_⟩) hHeld ?_ ?_
      rotate_left
      · rintro w' ⟨s0, s1, s2, s3, s4, s5⟩
        go_simp
        with_reducible rfl
      rotate_left
      · simp only [Act.put, List.setIfInBounds_toArray, List.set_cons_zero, List.set_cons_succ, i64_w, i32_w]
        rfl
      refine one_ (i := 3) (N := some 34) #[true, true, true, true, false, false, false, false, false, false, false, false, false, false, false, false] rfl rfl (by kernel_rfl) (by decide) (fun K hK => ?_)
      refine goes_ Try.func8 (by kernel_rfl) rfl #[.agg #[.int .i64 a0, .int .i64 a1, .int .i64 a2]] (by rfl) rfl rfl (by simp only [List.map_toArray, List.map_cons, List.map_nil]; rfl) ?_
      with_reducible refine (r_yes HRA.out _).mono ?_
      rintro e x3 ⟨rfl, hb⟩
      refine ⟨_, rfl, ?_⟩
      have HB3 : Held (Below W0 w x3) := ⟨HB2.out.drew.trans (hb.mono (by have := HB2.out.size; rw [HW0.out] at this; exact this))⟩
      have HN3 := Held.mk (HN2.out.drew.keep (Keep.of_below hb (fun _ => False)) (fun h => h))
      have HM3 := Held.mk (HM2.out.drew.keep (Keep.of_below hb (fun _ => False)) (fun h => h))
      have ck0 := HN3.out.cell 0
      have ck1 := HN3.out.cell 1
      have ck2 := HN3.out.cell 2
      have cj0 := HM3.out.cell 0
      have cj1 := HM3.out.cell 1
      have cj2 := HM3.out.cell 2
      simp at ck0 ck1 ck2 cj0 cj1 cj2
      clear hb HB2 HN2 HM2
      refine hK.out _ _ ⟨ck0, ck1, ck2, cj0, cj1, cj2⟩ (fun hHeld => ?_)
      clear hK K
      refine norm_ (a' := ?_) ?_ ?_
      rotate_left
      · show Act.put _ (some 34) _ = _
        simp only [Act.put, List.setIfInBounds_toArray, List.set_cons_zero, List.set_cons_succ, i64_w, i32_w]
        rfl
      refine pure_ (i := 4) (N := some 35) (v := ?_) (a' := ?_) #[true, true, true, true, true, false, false, false, false, false, false, false, false, false, false, false] rfl rfl (by kernel_rfl) (fun _ _ _ h => h) (Or.inl ⟨by rfl, ?_⟩) ?_ ?_
      rotate_left
      · intro w'
        go_simp
        with_reducible rfl
      rotate_left
      · simp only [Act.put, List.setIfInBounds_toArray, List.set_cons_zero, List.set_cons_succ, i64_w, i32_w]
        rfl
      refine pure_ (i := 5) (N := some 36) (v := ?_) (a' := ?_) #[true, true, true, true, true, true, false, false, false, false, false, false, false, false, false, false] rfl rfl (by kernel_rfl) (fun _ _ _ h => h) (Or.inl ⟨by rfl, ?_⟩) ?_ ?_
      rotate_left
      · intro w'
        go_simp
        with_reducible rfl
      rotate_left
      · simp only [Act.put, List.setIfInBounds_toArray, List.set_cons_zero, List.set_cons_succ, i64_w, i32_w]
        rfl
      refine pure_ (i := 6) (N := some 37) (v := ?_) (a' := ?_) #[true, true, true, true, true, true, true, false, false, false, false, false, false, false, false, false] rfl rfl (by kernel_rfl) (fun _ _ _ h => h) (Or.inl ⟨by rfl, ?_⟩) ?_ ?_
      rotate_left
      · intro w'
        go_simp
        with_reducible rfl
      rotate_left
      · simp only [Act.put, List.setIfInBounds_toArray, List.set_cons_zero, List.set_cons_succ, i64_w, i32_w]
        rfl
      refine pure_ (i := 7) (N := some 38) (v := ?_) (a' := ?_) #[true, true, true, true, true, true, true, true, false, false, false, false, false, false, false, false] rfl rfl (by kernel_rfl) (fun _ _ _ h => h) (Or.inl ⟨by rfl, ?_⟩) ?_ ?_
      rotate_left
      · intro w'
        go_simp
        with_reducible rfl
      rotate_left
      · simp only [Act.put, List.setIfInBounds_toArray, List.set_cons_zero, List.set_cons_succ, i64_w, i32_w]
        rfl
      refine take_ (i := 8) (N := some 39) (v := ?_) (a' := ?_) #[true, true, true, true, true, true, true, true, true, false, false, false, false, false, false, false] rfl rfl (by kernel_rfl) (fun _ _ _ h => h) (Or.inl ⟨by rfl, ?_⟩) hHeld ?_ ?_
      rotate_left
      · rintro w' ⟨s0, s1, s2, s3, s4, s5⟩
        go_simp
        with_reducible rfl
      rotate_left
      · simp only [Act.put, List.setIfInBounds_toArray, List.set_cons_zero, List.set_cons_succ, i64_w, i32_w]
        rfl
      refine one_ (i := 9) (N := some 40) #[true, true, true, true, true, true, true, true, true, true, false, false, false, false, false, false] rfl rfl (by kernel_rfl) (by decide) (fun K hK => ?_)
      refine goes_ Try.func8 (by kernel_rfl) rfl #[.agg #[.int .i64 b0, .int .i64 b1, .int .i64 b2]] (by rfl) rfl rfl (by simp only [List.map_toArray, List.map_cons, List.map_nil]; rfl) ?_
      with_reducible refine (r_no HRB.out _).mono ?_
      rintro e x4 ⟨rfl, hb⟩
      refine ⟨_, rfl, ?_⟩
      have HB4 : Held (Below W0 w x4) := ⟨HB3.out.trans (hb.mono (by have := HB3.out.size; rw [HW0.out] at this; exact this))⟩
      have HN4 := Held.mk (HN3.out.keep (Keep.of_below hb (fun _ => False)) (fun h => h))
      have HM4 := Held.mk (HM3.out.keep (Keep.of_below hb (fun _ => False)) (fun h => h))
      have dk0 := HN4.out.cell 0
      have dk1 := HN4.out.cell 1
      have dk2 := HN4.out.cell 2
      have dj0 := HM4.out.cell 0
      have dj1 := HM4.out.cell 1
      have dj2 := HM4.out.cell 2
      simp at dk0 dk1 dk2 dj0 dj1 dj2
      clear hb HB3 HN3 HM3
      refine hK.out _ _ ⟨dk0, dk1, dk2, dj0, dj1, dj2⟩ (fun hHeld => ?_)
      clear hK K
      refine norm_ (a' := ?_) ?_ ?_
      rotate_left
      · show Act.put _ (some 40) _ = _
        simp only [Act.put, List.setIfInBounds_toArray, List.set_cons_zero, List.set_cons_succ, i64_w, i32_w]
        rfl
      refine pure_ (i := 10) (N := some 41) (v := ?_) (a' := ?_) #[true, true, true, true, true, true, true, true, true, true, true, false, false, false, false, false] rfl rfl (by kernel_rfl) (fun _ _ _ h => h) (Or.inl ⟨by rfl, ?_⟩) ?_ ?_
      rotate_left
      · intro w'
        go_simp
        with_reducible rfl
      rotate_left
      · simp only [Act.put, List.setIfInBounds_toArray, List.set_cons_zero, List.set_cons_succ, i64_w, i32_w]
        rfl
      refine pure_ (i := 11) (N := some 42) (v := ?_) (a' := ?_) #[true, true, true, true, true, true, true, true, true, true, true, true, false, false, false, false] rfl rfl (by kernel_rfl) (fun _ _ _ h => h) (Or.inl ⟨by rfl, ?_⟩) ?_ ?_
      rotate_left
      · intro w'
        go_simp
        with_reducible rfl
      rotate_left
      · simp only [Act.put, List.setIfInBounds_toArray, List.set_cons_zero, List.set_cons_succ, i64_w, i32_w]
        rfl
      refine pure_ (i := 12) (N := some 43) (v := ?_) (a' := ?_) #[true, true, true, true, true, true, true, true, true, true, true, true, true, false, false, false] rfl rfl (by kernel_rfl) (fun _ _ _ h => h) (Or.inl ⟨by rfl, ?_⟩) ?_ ?_
      rotate_left
      · intro w'
        go_simp
        with_reducible rfl
      rotate_left
      · simp only [Act.put, List.setIfInBounds_toArray, List.set_cons_zero, List.set_cons_succ, i64_w, i32_w]
        rfl
      refine one_ (i := 13) (N := some 44) #[true, true, true, true, true, true, true, true, true, true, true, true, true, true, false, false] rfl rfl (by kernel_rfl) (by decide) (fun K hK => ?_)
      refine goes_ Try.func9 (by kernel_rfl) rfl #[] (by rfl) rfl rfl (by first | (simp only [List.map_toArray, List.map_cons, List.map_nil]; done) | (simp only [List.map_toArray, List.map_cons, List.map_nil]; rfl) | rfl) ?_
      with_reducible refine (shown_any _).mono ?_
      rintro e x5 ⟨rfl, hb⟩
      refine ⟨_, rfl, ?_⟩
      have HB5 : Held (Below W0 w x5) := ⟨HB4.out.trans (hb.mono (by have := HB4.out.size; rw [HW0.out] at this; exact this))⟩
      have HN5 := Held.mk (HN4.out.keep (Keep.of_below hb (fun _ => False)) (fun h => h))
      have HM5 := Held.mk (HM4.out.keep (Keep.of_below hb (fun _ => False)) (fun h => h))
      have ek0 := HN5.out.cell 0
      have ek1 := HN5.out.cell 1
      have ek2 := HN5.out.cell 2
      have ej0 := HM5.out.cell 0
      have ej1 := HM5.out.cell 1
      have ej2 := HM5.out.cell 2
      simp at ek0 ek1 ek2 ej0 ej1 ej2
      clear hb HB4 HN4 HM4
      refine hK.out _ _ ⟨ek0, ek1, ek2, ej0, ej1, ej2⟩ (fun hHeld => ?_)
      clear hK K
      refine norm_ (a' := ?_) ?_ ?_
      rotate_left
      · show Act.put _ (some 44) _ = _
        simp only [Act.put, List.setIfInBounds_toArray, List.set_cons_zero, List.set_cons_succ, i64_w, i32_w]
        rfl
      refine pure_ (i := 14) (N := some 45) (v := ?_) (a' := ?_) #[true, true, true, true, true, true, true, true, true, true, true, true, true, true, true, false] rfl rfl (by kernel_rfl) (fun _ _ _ h => h) (Or.inl ⟨by rfl, ?_⟩) ?_ ?_
      rotate_left
      · intro w'
        go_simp
        with_reducible rfl
      rotate_left
      · simp only [Act.put, List.setIfInBounds_toArray, List.set_cons_zero, List.set_cons_succ, i64_w, i32_w]
        rfl
      refine pure_ (i := 15) (N := some 46) (v := ?_) (a' := ?_) #[true, true, true, true, true, true, true, true, true, true, true, true, true, true, true, true] rfl rfl (by kernel_rfl) (fun _ _ _ h => h) (Or.inl ⟨by rfl, ?_⟩) ?_ ?_
      rotate_left
      · intro w'
        go_simp
        with_reducible rfl
      rotate_left
      · simp only [Act.put, List.setIfInBounds_toArray, List.set_cons_zero, List.set_cons_succ, i64_w, i32_w]
        rfl
      refine done_ (by kernel_rfl) ?_
      clear hHeld k0 k1 k2 j0 j1 j2 ck0 ck1 ck2 cj0 cj1 cj2 dk0 dk1 dk2 dj0 dj1 dj2 ek0 ek1 ek2 ej0 ej1 ej2
      go_wp2_with fail
      refine (of_in xa x5 ha1 ha2).mono ?_
      rintro e x6 ⟨y, m, d, rfl, hR, hN, hb⟩
      obtain ⟨rfl, rfl, rfl⟩ := hR.inj HRA.out (by rw [hN, Hxa.out])
      clear hR hN
      have HB6 : Held (Below W0 w x6) := ⟨HB5.out.trans (hb.mono (by have := HB5.out.size; rw [HW0.out] at this; exact this))⟩
      have HN6 := Held.mk (HN5.out.keep (Keep.of_below hb (fun _ => False)) (fun h => h))
      have HM6 := Held.mk (HM5.out.keep (Keep.of_below hb (fun _ => False)) (fun h => h))
      clear hb HB5 HN5 HM5
      unfold Dt
      have k0 : (x6.alloc (.cells #[.int .i64 y, .int .i64 m, .int .i64 d] 23)).cell? ⟨W0, 0, none⟩ = some (.int .i64 y) := (HN6.out.alloc _).cell 0
      have k1 : (x6.alloc (.cells #[.int .i64 y, .int .i64 m, .int .i64 d] 23)).cell? ⟨W0, 1, none⟩ = some (.int .i64 m) := (HN6.out.alloc _).cell 1
      have k2 : (x6.alloc (.cells #[.int .i64 y, .int .i64 m, .int .i64 d] 23)).cell? ⟨W0, 2, none⟩ = some (.int .i64 d) := (HN6.out.alloc _).cell 2
      have l0 : ((x6.alloc (.cells #[.int .i64 y, .int .i64 m, .int .i64 d] 23)).alloc (.cells #[.int .i64 y, .int .i64 m, .int .i64 d] 23)).cell? ⟨W0, 0, none⟩ = some (.int .i64 y) := ((HN6.out.alloc _).alloc _).cell 0
      have l1 : ((x6.alloc (.cells #[.int .i64 y, .int .i64 m, .int .i64 d] 23)).alloc (.cells #[.int .i64 y, .int .i64 m, .int .i64 d] 23)).cell? ⟨W0, 1, none⟩ = some (.int .i64 m) := ((HN6.out.alloc _).alloc _).cell 1
      have l2 : ((x6.alloc (.cells #[.int .i64 y, .int .i64 m, .int .i64 d] 23)).alloc (.cells #[.int .i64 y, .int .i64 m, .int .i64 d] 23)).cell? ⟨W0, 2, none⟩ = some (.int .i64 d) := ((HN6.out.alloc _).alloc _).cell 2
      have HB7 : Held (Below W0 w ((x6.alloc (.cells #[.int .i64 y, .int .i64 m, .int .i64 d] 23)).alloc (.cells #[.int .i64 (y + 400), .int .i64 m, .int .i64 d] 23))) := ⟨(HB6.out.alloc (by have := HB6.out.size; rw [HW0.out] at this; exact this) _).alloc (by have := HB6.out.size; rw [HW0.out] at this; simp; omega) _⟩
      have HN7 := Held.mk ((HN6.out.alloc (.cells #[.int .i64 y, .int .i64 m, .int .i64 d] 23)).alloc (.cells #[.int .i64 (y + 400), .int .i64 m, .int .i64 d] 23))
      have HM7 := Held.mk ((HM6.out.alloc (.cells #[.int .i64 y, .int .i64 m, .int .i64 d] 23)).alloc (.cells #[.int .i64 (y + 400), .int .i64 m, .int .i64 d] 23))
      have HO7' := Blk.new (x6.alloc (.cells #[.int .i64 y, .int .i64 m, .int .i64 d] 23)) 23 #[.int .i64 (y + 400), .int .i64 m, .int .i64 d]
      simp only [World.size_alloc] at HO7'
      have HO7 := Held.mk HO7'
      clear HO7'
      go_wp2_with fail
      generalize (x6.alloc (.cells #[.int .i64 y, .int .i64 m, .int .i64 d] 23)).alloc (.cells #[.int .i64 (y + 400), .int .i64 m, .int .i64 d] 23) = x7 at *
      clear k0 k1 k2 l0 l1 l2 HB6 HN6 HM6
      generalize x6.heap.size + 1 = g7 at *
      have e400 : decide (y + 400 ≤ 9999) = true ∨ decide (y + 400 ≤ 9999) = false := by cases decide (y + 400 ≤ 9999) <;> simp
      rcases e400 with e400 | e400
      · have h400 : y + 400 ≤ 9999 := of_decide_eq_true e400
        have h4l := (right_400 HRA.out h400).last
        rw [num_400, Hxa.out] at h4l
        refine (number_in (y + 400) m d x7 (right_400 HRA.out h400)).mono ?_
        rintro e x8 ⟨rfl, hb⟩
        rw [num_400, Hxa.out]
        have HB8 : Held (Below W0 w x8) := ⟨HB7.out.trans (hb.mono (by have := HB7.out.size; rw [HW0.out] at this; exact this))⟩
        have HN8 := Held.mk (HN7.out.keep (Keep.of_below hb (fun _ => False)) (fun h => h))
        have HM8 := Held.mk (HM7.out.keep (Keep.of_below hb (fun _ => False)) (fun h => h))
        have HO8 := Held.mk (HO7.out.keep (Keep.of_below hb (fun _ => False)) (fun h => h))
        clear hb HB7 HN7 HM7 HO7
        go_wp2_with fail
        refine (weekday_in xa x8 ha1 ha2).mono ?_
        rintro e xq ⟨rfl, rfl⟩
        go_wp2_with fail
        refine (weekday_in (xa + 146097) x8 h4l.1 h4l.2).mono ?_
        rintro e xq ⟨rfl, rfl⟩
        rw [show (xa + 146097 + 6) % 7 = (xa + 6) % 7 from by omega]
        have o0 := HO8.out.cell 0
        simp at o0
        have hwr : wrap64 (xa + 146097) = xa + 146097 := IntWalk.wrap64_in _ (by omega)
        generalize (xa + 6) % 7 = wd at *
        have k0 := HN8.out.cell 0
        have k1 := HN8.out.cell 1
        have k2 := HN8.out.cell 2
        have j0 := HM8.out.cell 0
        have j1 := HM8.out.cell 1
        have j2 := HM8.out.cell 2
        simp at k0 k1 k2 j0 j1 j2
        go_wp2_with fail
        go_quiet (fail)
        go_wp2_with fail
        by_cases hn : 1 ≤ n ∧ n ≤ 3652059
        · obtain ⟨hn1, hn2⟩ := hn
          have c91 : decide (n < 1) = false := decide_eq_false (by omega)
          have c92 : decide (3652059 < n) = false := decide_eq_false (by omega)
          refine (of_in n _ hn1 hn2).mono ?_
          rintro e z1 ⟨y', m', d', rfl, hR, hN, hb⟩
          have HR := Held.mk hR
          have HN := Held.mk hN
          have HZ1 : Held (Below W0 w z1) := ⟨(below_drewN HB8.out _).trans (hb.mono (by have := HB8.out.size; rw [HW0.out] at this; exact this))⟩
          clear hb hR hN
          unfold Dt
          have HZ2 : Held (Below W0 w (z1.alloc (.cells #[.int .i64 y', .int .i64 m', .int .i64 d'] 23))) := ⟨HZ1.out.alloc (by have := HZ1.out.size; rw [HW0.out] at this; exact this) _⟩
          have HP2 := Held.mk (Blk.new z1 23 #[.int .i64 y', .int .i64 m', .int .i64 d'])
          go_wp2_with fail
          generalize z1.alloc (.cells #[.int .i64 y', .int .i64 m', .int .i64 d'] 23) = z2 at *
          refine (number_in y' m' d' z2 HR.out).mono ?_
          rintro e z3 ⟨rfl, hb⟩
          rw [HN.out]
          have HZ3 : Held (Below W0 w z3) := ⟨HZ2.out.trans (hb.mono (by have := HZ2.out.size; rw [HW0.out] at this; exact this))⟩
          have HP3 := Held.mk (HP2.out.keep (Keep.of_below hb (fun _ => False)) (fun h => h))
          have q0 := HP3.out.cell 0
          have q1 := HP3.out.cell 1
          have q2 := HP3.out.cell 2
          simp at q0 q1 q2
          clear hb
          go_wp2_with fail
          refine (r_yes HR.out z3).mono ?_
          rintro e z4 ⟨rfl, hb⟩
          have HZ4 : Held (Below W0 w z4) := ⟨HZ3.out.trans (hb.mono (by have := HZ3.out.size; rw [HW0.out] at this; exact this))⟩
          clear hb
          go_wp2
          go_ret
          exact ⟨rfl, HZ4.out⟩
        · have hcn : decide (n < 1) = true ∨ decide (n < 1) = false ∧ decide (3652059 < n) = true := by
            simp only [decide_eq_true_eq, decide_eq_false_iff_not]
            omega
          refine (of_out n _ hn).mono ?_
          rintro e z1 ⟨rfl, hb⟩
          have HZ1 : Held (Below W0 w z1) := ⟨(below_drewN HB8.out _).trans (hb.mono (by have := HB8.out.size; rw [HW0.out] at this; exact this))⟩
          have HZ2 := HZ1.out.size
          rw [HW0.out] at HZ2
          clear hb hn
          unfold Dt errDateV
          rcases hcn with c91 | ⟨c91, c92⟩
          · go_wp2
            go_ret
            exact ⟨rfl, HZ1.out.alloc HZ2 _⟩
          · go_wp2
            go_ret
            exact ⟨rfl, HZ1.out.alloc HZ2 _⟩
      · have h400 : ¬ y + 400 ≤ 9999 := of_decide_eq_false e400
        refine (number_no (y + 400) m d x7 (fun h => h400 h.y2)).mono ?_
        rintro e x8 ⟨rfl, hb⟩
        unfold noDayV
        have HB8 : Held (Below W0 w x8) := ⟨HB7.out.trans (hb.mono (by have := HB7.out.size; rw [HW0.out] at this; exact this))⟩
        have HN8 := Held.mk (HN7.out.keep (Keep.of_below hb (fun _ => False)) (fun h => h))
        have HM8 := Held.mk (HM7.out.keep (Keep.of_below hb (fun _ => False)) (fun h => h))
        have HO8 := Held.mk (HO7.out.keep (Keep.of_below hb (fun _ => False)) (fun h => h))
        clear hb HB7 HN7 HM7 HO7
        go_wp2_with fail
        refine (weekday_in xa x8 ha1 ha2).mono ?_
        rintro e xq ⟨rfl, rfl⟩
        go_wp2_with fail
        refine (weekday_out 0 x8 (by decide)).mono ?_
        rintro e xq ⟨rfl, rfl⟩
        unfold noDayV
        have o0 := HO8.out.cell 0
        simp at o0
        have hwr : wrap64 (xa + 146097) = xa + 146097 := IntWalk.wrap64_in _ (by omega)
        generalize (xa + 6) % 7 = wd at *
        have k0 := HN8.out.cell 0
        have k1 := HN8.out.cell 1
        have k2 := HN8.out.cell 2
        have j0 := HM8.out.cell 0
        have j1 := HM8.out.cell 1
        have j2 := HM8.out.cell 2
        simp at k0 k1 k2 j0 j1 j2
        go_wp2_with fail
        go_quiet (fail)
        go_wp2_with fail
        by_cases hn : 1 ≤ n ∧ n ≤ 3652059
        · obtain ⟨hn1, hn2⟩ := hn
          have c91 : decide (n < 1) = false := decide_eq_false (by omega)
          have c92 : decide (3652059 < n) = false := decide_eq_false (by omega)
          refine (of_in n _ hn1 hn2).mono ?_
          rintro e z1 ⟨y', m', d', rfl, hR, hN, hb⟩
          have HR := Held.mk hR
          have HN := Held.mk hN
          have HZ1 : Held (Below W0 w z1) := ⟨(below_drewN HB8.out _).trans (hb.mono (by have := HB8.out.size; rw [HW0.out] at this; exact this))⟩
          clear hb hR hN
          unfold Dt
          have HZ2 : Held (Below W0 w (z1.alloc (.cells #[.int .i64 y', .int .i64 m', .int .i64 d'] 23))) := ⟨HZ1.out.alloc (by have := HZ1.out.size; rw [HW0.out] at this; exact this) _⟩
          have HP2 := Held.mk (Blk.new z1 23 #[.int .i64 y', .int .i64 m', .int .i64 d'])
          go_wp2_with fail
          generalize z1.alloc (.cells #[.int .i64 y', .int .i64 m', .int .i64 d'] 23) = z2 at *
          refine (number_in y' m' d' z2 HR.out).mono ?_
          rintro e z3 ⟨rfl, hb⟩
          rw [HN.out]
          have HZ3 : Held (Below W0 w z3) := ⟨HZ2.out.trans (hb.mono (by have := HZ2.out.size; rw [HW0.out] at this; exact this))⟩
          have HP3 := Held.mk (HP2.out.keep (Keep.of_below hb (fun _ => False)) (fun h => h))
          have q0 := HP3.out.cell 0
          have q1 := HP3.out.cell 1
          have q2 := HP3.out.cell 2
          simp at q0 q1 q2
          clear hb
          go_wp2_with fail
          refine (r_yes HR.out z3).mono ?_
          rintro e z4 ⟨rfl, hb⟩
          have HZ4 : Held (Below W0 w z4) := ⟨HZ3.out.trans (hb.mono (by have := HZ3.out.size; rw [HW0.out] at this; exact this))⟩
          clear hb
          go_wp2
          go_ret
          exact ⟨rfl, HZ4.out⟩
        · have hcn : decide (n < 1) = true ∨ decide (n < 1) = false ∧ decide (3652059 < n) = true := by
            simp only [decide_eq_true_eq, decide_eq_false_iff_not]
            omega
          refine (of_out n _ hn).mono ?_
          rintro e z1 ⟨rfl, hb⟩
          have HZ1 : Held (Below W0 w z1) := ⟨(below_drewN HB8.out _).trans (hb.mono (by have := HB8.out.size; rw [HW0.out] at this; exact this))⟩
          have HZ2 := HZ1.out.size
          rw [HW0.out] at HZ2
          clear hb hn
          unfold Dt errDateV
          rcases hcn with c91 | ⟨c91, c92⟩
          · go_wp2
            go_ret
            exact ⟨rfl, HZ1.out.alloc HZ2 _⟩
          · go_wp2
            go_ret
            exact ⟨rfl, HZ1.out.alloc HZ2 _⟩
  · by_cases hRB : Right b0 b1 b2
    · refine (number_no a0 a1 a2 x0 hRA).mono ?_
      rintro e x1 ⟨rfl, hb⟩
      have HRA := Held.mk hRA
      clear hRA
      unfold noDayV
      have HB1 : Held (Below W0 w x1) := ⟨HB0.out.trans (hb.mono (by have := HB0.out.size; rw [HW0.out] at this; exact this))⟩
      have HN1 := Held.mk (HN0.out.keep (Keep.of_below hb (fun _ => False)) (fun h => h))
      have HM1 := Held.mk (HM0.out.keep (Keep.of_below hb (fun _ => False)) (fun h => h))
      clear hb HB0 HN0 HM0
      have k0 := HN1.out.cell 0
      have k1 := HN1.out.cell 1
      have k2 := HN1.out.cell 2
      have j0 := HM1.out.cell 0
      have j1 := HM1.out.cell 1
      have j2 := HM1.out.cell 2
      simp at k0 k1 k2 j0 j1 j2
      go_wp2_with fail
      refine (number_in b0 b1 b2 x1 hRB).mono ?_
      rintro e x2 ⟨rfl, hb⟩
      have HRB := Held.mk hRB
      obtain ⟨hb1, hb2⟩ := hRB.last
      obtain ⟨xb, hxb⟩ : ∃ xb, numI b0 b1 b2 = xb := ⟨_, rfl⟩
      rw [hxb] at hb1 hb2 ⊢
      have Hxb := Held.mk hxb
      clear hxb
      clear hRB k0 k1 k2 j0 j1 j2
      have HB2 : Held (Below W0 w x2) := ⟨HB1.out.trans (hb.mono (by have := HB1.out.size; rw [HW0.out] at this; exact this))⟩
      have HN2 := Held.mk (HN1.out.keep (Keep.of_below hb (fun _ => False)) (fun h => h))
      have HM2 := Held.mk (HM1.out.keep (Keep.of_below hb (fun _ => False)) (fun h => h))
      clear hb HB1 HN1 HM1
      have k0 := HN2.out.cell 0
      have k1 := HN2.out.cell 1
      have k2 := HN2.out.cell 2
      have j0 := HM2.out.cell 0
      have j1 := HM2.out.cell 1
      have j2 := HM2.out.cell 2
      simp at k0 k1 k2 j0 j1 j2
      have nk0 := HN2.out.lt
      have nj0 := HM2.out.lt
      go_wp2_with fail
      refine start_ (n := 16) (S := fun w' => w'.cell? ⟨W0, 0, none⟩ = some (.int .i64 a0) ∧ w'.cell? ⟨W0, 1, none⟩ = some (.int .i64 a1) ∧ w'.cell? ⟨W0, 2, none⟩ = some (.int .i64 a2) ∧ w'.cell? ⟨W0 + 1, 0, none⟩ = some (.int .i64 b0) ∧ w'.cell? ⟨W0 + 1, 1, none⟩ = some (.int .i64 b1) ∧ w'.cell? ⟨W0 + 1, 2, none⟩ = some (.int .i64 b2)) (ds := []) #[false, false, false, false, false, false, false, false, false, false, false, false, false, false, false, false] (by kernel_rfl) rfl rfl ⟨k0, k1, k2, j0, j1, j2⟩ (fun hHeld => ?_)
      refine pure_ (i := 0) (N := some 31) (v := ?_) (a' := ?_) #[true, false, false, false, false, false, false, false, false, false, false, false, false, false, false, false] rfl rfl (by kernel_rfl) (fun _ _ _ h => h) (Or.inl ⟨by rfl, ?_⟩) ?_ ?_
      rotate_left
      · intro w'
        go_simp
        with_reducible rfl
      rotate_left
      · simp only [Act.put, List.setIfInBounds_toArray, List.set_cons_zero, List.set_cons_succ, i64_w, i32_w]
        rfl
      refine pure_ (i := 1) (N := some 32) (v := ?_) (a' := ?_) #[true, true, false, false, false, false, false, false, false, false, false, false, false, false, false, false] rfl rfl (by kernel_rfl) (fun _ _ _ h => h) (Or.inl ⟨by rfl, ?_⟩) ?_ ?_
      rotate_left
      · intro w'
        go_simp
        with_reducible rfl
      rotate_left
      · simp only [Act.put, List.setIfInBounds_toArray, List.set_cons_zero, List.set_cons_succ, i64_w, i32_w]
        rfl
      refine take_ (i := 2) (N := some 33) (v := ?_) (a' := ?_) #[true, true, true, false, false, false, false, false, false, false, false, false, false, false, false, false] rfl rfl (by kernel_rfl) (fun _ _ _ h => h) (Or.inl ⟨by rfl, ?_⟩) hHeld ?_ ?_
      rotate_left
      · rintro w' ⟨s0, s1, s2, s3, s4, s5⟩
        go_simp
        with_reducible rfl
      rotate_left
      · simp only [Act.put, List.setIfInBounds_toArray, List.set_cons_zero, List.set_cons_succ, i64_w, i32_w]
        rfl
      refine one_ (i := 3) (N := some 34) #[true, true, true, true, false, false, false, false, false, false, false, false, false, false, false, false] rfl rfl (by kernel_rfl) (by decide) (fun K hK => ?_)
      refine goes_ Try.func8 (by kernel_rfl) rfl #[.agg #[.int .i64 a0, .int .i64 a1, .int .i64 a2]] (by rfl) rfl rfl (by simp only [List.map_toArray, List.map_cons, List.map_nil]; rfl) ?_
      with_reducible refine (r_no HRA.out _).mono ?_
      rintro e x3 ⟨rfl, hb⟩
      refine ⟨_, rfl, ?_⟩
      have HB3 : Held (Below W0 w x3) := ⟨HB2.out.drew.trans (hb.mono (by have := HB2.out.size; rw [HW0.out] at this; exact this))⟩
      have HN3 := Held.mk (HN2.out.drew.keep (Keep.of_below hb (fun _ => False)) (fun h => h))
      have HM3 := Held.mk (HM2.out.drew.keep (Keep.of_below hb (fun _ => False)) (fun h => h))
      have ck0 := HN3.out.cell 0
      have ck1 := HN3.out.cell 1
      have ck2 := HN3.out.cell 2
      have cj0 := HM3.out.cell 0
      have cj1 := HM3.out.cell 1
      have cj2 := HM3.out.cell 2
      simp at ck0 ck1 ck2 cj0 cj1 cj2
      clear hb HB2 HN2 HM2
      refine hK.out _ _ ⟨ck0, ck1, ck2, cj0, cj1, cj2⟩ (fun hHeld => ?_)
      clear hK K
      refine norm_ (a' := ?_) ?_ ?_
      rotate_left
      · show Act.put _ (some 34) _ = _
        simp only [Act.put, List.setIfInBounds_toArray, List.set_cons_zero, List.set_cons_succ, i64_w, i32_w]
        rfl
      refine pure_ (i := 4) (N := some 35) (v := ?_) (a' := ?_) #[true, true, true, true, true, false, false, false, false, false, false, false, false, false, false, false] rfl rfl (by kernel_rfl) (fun _ _ _ h => h) (Or.inl ⟨by rfl, ?_⟩) ?_ ?_
      rotate_left
      · intro w'
        go_simp
        with_reducible rfl
      rotate_left
      · simp only [Act.put, List.setIfInBounds_toArray, List.set_cons_zero, List.set_cons_succ, i64_w, i32_w]
        rfl
      refine pure_ (i := 5) (N := some 36) (v := ?_) (a' := ?_) #[true, true, true, true, true, true, false, false, false, false, false, false, false, false, false, false] rfl rfl (by kernel_rfl) (fun _ _ _ h => h) (Or.inl ⟨by rfl, ?_⟩) ?_ ?_
      rotate_left
      · intro w'
        go_simp
        with_reducible rfl
      rotate_left
      · simp only [Act.put, List.setIfInBounds_toArray, List.set_cons_zero, List.set_cons_succ, i64_w, i32_w]
        rfl
      refine pure_ (i := 6) (N := some 37) (v := ?_) (a' := ?_) #[true, true, true, true, true, true, true, false, false, false, false, false, false, false, false, false] rfl rfl (by kernel_rfl) (fun _ _ _ h => h) (Or.inl ⟨by rfl, ?_⟩) ?_ ?_
      rotate_left
      · intro w'
        go_simp
        with_reducible rfl
      rotate_left
      · simp only [Act.put, List.setIfInBounds_toArray, List.set_cons_zero, List.set_cons_succ, i64_w, i32_w]
        rfl
      refine pure_ (i := 7) (N := some 38) (v := ?_) (a' := ?_) #[true, true, true, true, true, true, true, true, false, false, false, false, false, false, false, false] rfl rfl (by kernel_rfl) (fun _ _ _ h => h) (Or.inl ⟨by rfl, ?_⟩) ?_ ?_
      rotate_left
      · intro w'
        go_simp
        with_reducible rfl
      rotate_left
      · simp only [Act.put, List.setIfInBounds_toArray, List.set_cons_zero, List.set_cons_succ, i64_w, i32_w]
        rfl
      refine take_ (i := 8) (N := some 39) (v := ?_) (a' := ?_) #[true, true, true, true, true, true, true, true, true, false, false, false, false, false, false, false] rfl rfl (by kernel_rfl) (fun _ _ _ h => h) (Or.inl ⟨by rfl, ?_⟩) hHeld ?_ ?_
      rotate_left
      · rintro w' ⟨s0, s1, s2, s3, s4, s5⟩
        go_simp
        with_reducible rfl
      rotate_left
      · simp only [Act.put, List.setIfInBounds_toArray, List.set_cons_zero, List.set_cons_succ, i64_w, i32_w]
        rfl
      refine one_ (i := 9) (N := some 40) #[true, true, true, true, true, true, true, true, true, true, false, false, false, false, false, false] rfl rfl (by kernel_rfl) (by decide) (fun K hK => ?_)
      refine goes_ Try.func8 (by kernel_rfl) rfl #[.agg #[.int .i64 b0, .int .i64 b1, .int .i64 b2]] (by rfl) rfl rfl (by simp only [List.map_toArray, List.map_cons, List.map_nil]; rfl) ?_
      with_reducible refine (r_yes HRB.out _).mono ?_
      rintro e x4 ⟨rfl, hb⟩
      refine ⟨_, rfl, ?_⟩
      have HB4 : Held (Below W0 w x4) := ⟨HB3.out.trans (hb.mono (by have := HB3.out.size; rw [HW0.out] at this; exact this))⟩
      have HN4 := Held.mk (HN3.out.keep (Keep.of_below hb (fun _ => False)) (fun h => h))
      have HM4 := Held.mk (HM3.out.keep (Keep.of_below hb (fun _ => False)) (fun h => h))
      have dk0 := HN4.out.cell 0
      have dk1 := HN4.out.cell 1
      have dk2 := HN4.out.cell 2
      have dj0 := HM4.out.cell 0
      have dj1 := HM4.out.cell 1
      have dj2 := HM4.out.cell 2
      simp at dk0 dk1 dk2 dj0 dj1 dj2
      clear hb HB3 HN3 HM3
      refine hK.out _ _ ⟨dk0, dk1, dk2, dj0, dj1, dj2⟩ (fun hHeld => ?_)
      clear hK K
      refine norm_ (a' := ?_) ?_ ?_
      rotate_left
      · show Act.put _ (some 40) _ = _
        simp only [Act.put, List.setIfInBounds_toArray, List.set_cons_zero, List.set_cons_succ, i64_w, i32_w]
        rfl
      refine pure_ (i := 10) (N := some 41) (v := ?_) (a' := ?_) #[true, true, true, true, true, true, true, true, true, true, true, false, false, false, false, false] rfl rfl (by kernel_rfl) (fun _ _ _ h => h) (Or.inl ⟨by rfl, ?_⟩) ?_ ?_
      rotate_left
      · intro w'
        go_simp
        with_reducible rfl
      rotate_left
      · simp only [Act.put, List.setIfInBounds_toArray, List.set_cons_zero, List.set_cons_succ, i64_w, i32_w]
        rfl
      refine pure_ (i := 11) (N := some 42) (v := ?_) (a' := ?_) #[true, true, true, true, true, true, true, true, true, true, true, true, false, false, false, false] rfl rfl (by kernel_rfl) (fun _ _ _ h => h) (Or.inl ⟨by rfl, ?_⟩) ?_ ?_
      rotate_left
      · intro w'
        go_simp
        with_reducible rfl
      rotate_left
      · simp only [Act.put, List.setIfInBounds_toArray, List.set_cons_zero, List.set_cons_succ, i64_w, i32_w]
        rfl
      refine pure_ (i := 12) (N := some 43) (v := ?_) (a' := ?_) #[true, true, true, true, true, true, true, true, true, true, true, true, true, false, false, false] rfl rfl (by kernel_rfl) (fun _ _ _ h => h) (Or.inl ⟨by rfl, ?_⟩) ?_ ?_
      rotate_left
      · intro w'
        go_simp
        with_reducible rfl
      rotate_left
      · simp only [Act.put, List.setIfInBounds_toArray, List.set_cons_zero, List.set_cons_succ, i64_w, i32_w]
        rfl
      refine one_ (i := 13) (N := some 44) #[true, true, true, true, true, true, true, true, true, true, true, true, true, true, false, false] rfl rfl (by kernel_rfl) (by decide) (fun K hK => ?_)
      refine goes_ Try.func9 (by kernel_rfl) rfl #[] (by rfl) rfl rfl (by first | (simp only [List.map_toArray, List.map_cons, List.map_nil]; done) | (simp only [List.map_toArray, List.map_cons, List.map_nil]; rfl) | rfl) ?_
      with_reducible refine (shown_any _).mono ?_
      rintro e x5 ⟨rfl, hb⟩
      refine ⟨_, rfl, ?_⟩
      have HB5 : Held (Below W0 w x5) := ⟨HB4.out.trans (hb.mono (by have := HB4.out.size; rw [HW0.out] at this; exact this))⟩
      have HN5 := Held.mk (HN4.out.keep (Keep.of_below hb (fun _ => False)) (fun h => h))
      have HM5 := Held.mk (HM4.out.keep (Keep.of_below hb (fun _ => False)) (fun h => h))
      have ek0 := HN5.out.cell 0
      have ek1 := HN5.out.cell 1
      have ek2 := HN5.out.cell 2
      have ej0 := HM5.out.cell 0
      have ej1 := HM5.out.cell 1
      have ej2 := HM5.out.cell 2
      simp at ek0 ek1 ek2 ej0 ej1 ej2
      clear hb HB4 HN4 HM4
      refine hK.out _ _ ⟨ek0, ek1, ek2, ej0, ej1, ej2⟩ (fun hHeld => ?_)
      clear hK K
      refine norm_ (a' := ?_) ?_ ?_
      rotate_left
      · show Act.put _ (some 44) _ = _
        simp only [Act.put, List.setIfInBounds_toArray, List.set_cons_zero, List.set_cons_succ, i64_w, i32_w]
        rfl
      refine pure_ (i := 14) (N := some 45) (v := ?_) (a' := ?_) #[true, true, true, true, true, true, true, true, true, true, true, true, true, true, true, false] rfl rfl (by kernel_rfl) (fun _ _ _ h => h) (Or.inl ⟨by rfl, ?_⟩) ?_ ?_
      rotate_left
      · intro w'
        go_simp
        with_reducible rfl
      rotate_left
      · simp only [Act.put, List.setIfInBounds_toArray, List.set_cons_zero, List.set_cons_succ, i64_w, i32_w]
        rfl
      refine pure_ (i := 15) (N := some 46) (v := ?_) (a' := ?_) #[true, true, true, true, true, true, true, true, true, true, true, true, true, true, true, true] rfl rfl (by kernel_rfl) (fun _ _ _ h => h) (Or.inl ⟨by rfl, ?_⟩) ?_ ?_
      rotate_left
      · intro w'
        go_simp
        with_reducible rfl
      rotate_left
      · simp only [Act.put, List.setIfInBounds_toArray, List.set_cons_zero, List.set_cons_succ, i64_w, i32_w]
        rfl
      refine done_ (by kernel_rfl) ?_
      clear hHeld k0 k1 k2 j0 j1 j2 ck0 ck1 ck2 cj0 cj1 cj2 dk0 dk1 dk2 dj0 dj1 dj2 ek0 ek1 ek2 ej0 ej1 ej2
      go_wp2_with fail
      by_cases hn : 1 ≤ n ∧ n ≤ 3652059
      · obtain ⟨hn1, hn2⟩ := hn
        have c91 : decide (n < 1) = false := decide_eq_false (by omega)
        have c92 : decide (3652059 < n) = false := decide_eq_false (by omega)
        refine (of_in n _ hn1 hn2).mono ?_
        rintro e z1 ⟨y', m', d', rfl, hR, hN, hb⟩
        have HR := Held.mk hR
        have HN := Held.mk hN
        have HZ1 : Held (Below W0 w z1) := ⟨HB5.out.trans (hb.mono (by have := HB5.out.size; rw [HW0.out] at this; exact this))⟩
        clear hb hR hN
        unfold Dt
        have HZ2 : Held (Below W0 w (z1.alloc (.cells #[.int .i64 y', .int .i64 m', .int .i64 d'] 23))) := ⟨HZ1.out.alloc (by have := HZ1.out.size; rw [HW0.out] at this; exact this) _⟩
        have HP2 := Held.mk (Blk.new z1 23 #[.int .i64 y', .int .i64 m', .int .i64 d'])
        go_wp2_with fail
        generalize z1.alloc (.cells #[.int .i64 y', .int .i64 m', .int .i64 d'] 23) = z2 at *
        refine (number_in y' m' d' z2 HR.out).mono ?_
        rintro e z3 ⟨rfl, hb⟩
        rw [HN.out]
        have HZ3 : Held (Below W0 w z3) := ⟨HZ2.out.trans (hb.mono (by have := HZ2.out.size; rw [HW0.out] at this; exact this))⟩
        have HP3 := Held.mk (HP2.out.keep (Keep.of_below hb (fun _ => False)) (fun h => h))
        have q0 := HP3.out.cell 0
        have q1 := HP3.out.cell 1
        have q2 := HP3.out.cell 2
        simp at q0 q1 q2
        clear hb
        go_wp2_with fail
        refine (r_yes HR.out z3).mono ?_
        rintro e z4 ⟨rfl, hb⟩
        have HZ4 : Held (Below W0 w z4) := ⟨HZ3.out.trans (hb.mono (by have := HZ3.out.size; rw [HW0.out] at this; exact this))⟩
        clear hb
        go_wp2
        go_ret
        exact ⟨rfl, HZ4.out⟩
      · have hcn : decide (n < 1) = true ∨ decide (n < 1) = false ∧ decide (3652059 < n) = true := by
          simp only [decide_eq_true_eq, decide_eq_false_iff_not]
          omega
        refine (of_out n _ hn).mono ?_
        rintro e z1 ⟨rfl, hb⟩
        have HZ1 : Held (Below W0 w z1) := ⟨HB5.out.trans (hb.mono (by have := HB5.out.size; rw [HW0.out] at this; exact this))⟩
        have HZ2 := HZ1.out.size
        rw [HW0.out] at HZ2
        clear hb hn
        unfold Dt errDateV
        rcases hcn with c91 | ⟨c91, c92⟩
        · go_wp2
          go_ret
          exact ⟨rfl, HZ1.out.alloc HZ2 _⟩
        · go_wp2
          go_ret
          exact ⟨rfl, HZ1.out.alloc HZ2 _⟩
    · refine (number_no a0 a1 a2 x0 hRA).mono ?_
      rintro e x1 ⟨rfl, hb⟩
      have HRA := Held.mk hRA
      clear hRA
      unfold noDayV
      have HB1 : Held (Below W0 w x1) := ⟨HB0.out.trans (hb.mono (by have := HB0.out.size; rw [HW0.out] at this; exact this))⟩
      have HN1 := Held.mk (HN0.out.keep (Keep.of_below hb (fun _ => False)) (fun h => h))
      have HM1 := Held.mk (HM0.out.keep (Keep.of_below hb (fun _ => False)) (fun h => h))
      clear hb HB0 HN0 HM0
      have k0 := HN1.out.cell 0
      have k1 := HN1.out.cell 1
      have k2 := HN1.out.cell 2
      have j0 := HM1.out.cell 0
      have j1 := HM1.out.cell 1
      have j2 := HM1.out.cell 2
      simp at k0 k1 k2 j0 j1 j2
      go_wp2_with fail
      refine (number_no b0 b1 b2 x1 hRB).mono ?_
      rintro e x2 ⟨rfl, hb⟩
      have HRB := Held.mk hRB
      clear hRB k0 k1 k2 j0 j1 j2
      unfold noDayV
      have HB2 : Held (Below W0 w x2) := ⟨HB1.out.trans (hb.mono (by have := HB1.out.size; rw [HW0.out] at this; exact this))⟩
      have HN2 := Held.mk (HN1.out.keep (Keep.of_below hb (fun _ => False)) (fun h => h))
      have HM2 := Held.mk (HM1.out.keep (Keep.of_below hb (fun _ => False)) (fun h => h))
      clear hb HB1 HN1 HM1
      have k0 := HN2.out.cell 0
      have k1 := HN2.out.cell 1
      have k2 := HN2.out.cell 2
      have j0 := HM2.out.cell 0
      have j1 := HM2.out.cell 1
      have j2 := HM2.out.cell 2
      simp at k0 k1 k2 j0 j1 j2
      have nk0 := HN2.out.lt
      have nj0 := HM2.out.lt
      go_wp2_with fail
      refine start_ (n := 16) (S := fun w' => w'.cell? ⟨W0, 0, none⟩ = some (.int .i64 a0) ∧ w'.cell? ⟨W0, 1, none⟩ = some (.int .i64 a1) ∧ w'.cell? ⟨W0, 2, none⟩ = some (.int .i64 a2) ∧ w'.cell? ⟨W0 + 1, 0, none⟩ = some (.int .i64 b0) ∧ w'.cell? ⟨W0 + 1, 1, none⟩ = some (.int .i64 b1) ∧ w'.cell? ⟨W0 + 1, 2, none⟩ = some (.int .i64 b2)) (ds := []) #[false, false, false, false, false, false, false, false, false, false, false, false, false, false, false, false] (by kernel_rfl) rfl rfl ⟨k0, k1, k2, j0, j1, j2⟩ (fun hHeld => ?_)
      refine pure_ (i := 0) (N := some 31) (v := ?_) (a' := ?_) #[true, false, false, false, false, false, false, false, false, false, false, false, false, false, false, false] rfl rfl (by kernel_rfl) (fun _ _ _ h => h) (Or.inl ⟨by rfl, ?_⟩) ?_ ?_
      rotate_left
      · intro w'
        go_simp
        with_reducible rfl
      rotate_left
      · simp only [Act.put, List.setIfInBounds_toArray, List.set_cons_zero, List.set_cons_succ, i64_w, i32_w]
        rfl
      refine pure_ (i := 1) (N := some 32) (v := ?_) (a' := ?_) #[true, true, false, false, false, false, false, false, false, false, false, false, false, false, false, false] rfl rfl (by kernel_rfl) (fun _ _ _ h => h) (Or.inl ⟨by rfl, ?_⟩) ?_ ?_
      rotate_left
      · intro w'
        go_simp
        with_reducible rfl
      rotate_left
      · simp only [Act.put, List.setIfInBounds_toArray, List.set_cons_zero, List.set_cons_succ, i64_w, i32_w]
        rfl
      refine take_ (i := 2) (N := some 33) (v := ?_) (a' := ?_) #[true, true, true, false, false, false, false, false, false, false, false, false, false, false, false, false] rfl rfl (by kernel_rfl) (fun _ _ _ h => h) (Or.inl ⟨by rfl, ?_⟩) hHeld ?_ ?_
      rotate_left
      · rintro w' ⟨s0, s1, s2, s3, s4, s5⟩
        go_simp
        with_reducible rfl
      rotate_left
      · simp only [Act.put, List.setIfInBounds_toArray, List.set_cons_zero, List.set_cons_succ, i64_w, i32_w]
        rfl
      refine one_ (i := 3) (N := some 34) #[true, true, true, true, false, false, false, false, false, false, false, false, false, false, false, false] rfl rfl (by kernel_rfl) (by decide) (fun K hK => ?_)
      refine goes_ Try.func8 (by kernel_rfl) rfl #[.agg #[.int .i64 a0, .int .i64 a1, .int .i64 a2]] (by rfl) rfl rfl (by simp only [List.map_toArray, List.map_cons, List.map_nil]; rfl) ?_
      with_reducible refine (r_no HRA.out _).mono ?_
      rintro e x3 ⟨rfl, hb⟩
      refine ⟨_, rfl, ?_⟩
      have HB3 : Held (Below W0 w x3) := ⟨HB2.out.drew.trans (hb.mono (by have := HB2.out.size; rw [HW0.out] at this; exact this))⟩
      have HN3 := Held.mk (HN2.out.drew.keep (Keep.of_below hb (fun _ => False)) (fun h => h))
      have HM3 := Held.mk (HM2.out.drew.keep (Keep.of_below hb (fun _ => False)) (fun h => h))
      have ck0 := HN3.out.cell 0
      have ck1 := HN3.out.cell 1
      have ck2 := HN3.out.cell 2
      have cj0 := HM3.out.cell 0
      have cj1 := HM3.out.cell 1
      have cj2 := HM3.out.cell 2
      simp at ck0 ck1 ck2 cj0 cj1 cj2
      clear hb HB2 HN2 HM2
      refine hK.out _ _ ⟨ck0, ck1, ck2, cj0, cj1, cj2⟩ (fun hHeld => ?_)
      clear hK K
      refine norm_ (a' := ?_) ?_ ?_
      rotate_left
      · show Act.put _ (some 34) _ = _
        simp only [Act.put, List.setIfInBounds_toArray, List.set_cons_zero, List.set_cons_succ, i64_w, i32_w]
        rfl
      refine pure_ (i := 4) (N := some 35) (v := ?_) (a' := ?_) #[true, true, true, true, true, false, false, false, false, false, false, false, false, false, false, false] rfl rfl (by kernel_rfl) (fun _ _ _ h => h) (Or.inl ⟨by rfl, ?_⟩) ?_ ?_
      rotate_left
      · intro w'
        go_simp
        with_reducible rfl
      rotate_left
      · simp only [Act.put, List.setIfInBounds_toArray, List.set_cons_zero, List.set_cons_succ, i64_w, i32_w]
        rfl
      refine pure_ (i := 5) (N := some 36) (v := ?_) (a' := ?_) #[true, true, true, true, true, true, false, false, false, false, false, false, false, false, false, false] rfl rfl (by kernel_rfl) (fun _ _ _ h => h) (Or.inl ⟨by rfl, ?_⟩) ?_ ?_
      rotate_left
      · intro w'
        go_simp
        with_reducible rfl
      rotate_left
      · simp only [Act.put, List.setIfInBounds_toArray, List.set_cons_zero, List.set_cons_succ, i64_w, i32_w]
        rfl
      refine pure_ (i := 6) (N := some 37) (v := ?_) (a' := ?_) #[true, true, true, true, true, true, true, false, false, false, false, false, false, false, false, false] rfl rfl (by kernel_rfl) (fun _ _ _ h => h) (Or.inl ⟨by rfl, ?_⟩) ?_ ?_
      rotate_left
      · intro w'
        go_simp
        with_reducible rfl
      rotate_left
      · simp only [Act.put, List.setIfInBounds_toArray, List.set_cons_zero, List.set_cons_succ, i64_w, i32_w]
        rfl
      refine pure_ (i := 7) (N := some 38) (v := ?_) (a' := ?_) #[true, true, true, true, true, true, true, true, false, false, false, false, false, false, false, false] rfl rfl (by kernel_rfl) (fun _ _ _ h => h) (Or.inl ⟨by rfl, ?_⟩) ?_ ?_
      rotate_left
      · intro w'
        go_simp
        with_reducible rfl
      rotate_left
      · simp only [Act.put, List.setIfInBounds_toArray, List.set_cons_zero, List.set_cons_succ, i64_w, i32_w]
        rfl
      refine take_ (i := 8) (N := some 39) (v := ?_) (a' := ?_) #[true, true, true, true, true, true, true, true, true, false, false, false, false, false, false, false] rfl rfl (by kernel_rfl) (fun _ _ _ h => h) (Or.inl ⟨by rfl, ?_⟩) hHeld ?_ ?_
      rotate_left
      · rintro w' ⟨s0, s1, s2, s3, s4, s5⟩
        go_simp
        with_reducible rfl
      rotate_left
      · simp only [Act.put, List.setIfInBounds_toArray, List.set_cons_zero, List.set_cons_succ, i64_w, i32_w]
        rfl
      refine one_ (i := 9) (N := some 40) #[true, true, true, true, true, true, true, true, true, true, false, false, false, false, false, false] rfl rfl (by kernel_rfl) (by decide) (fun K hK => ?_)
      refine goes_ Try.func8 (by kernel_rfl) rfl #[.agg #[.int .i64 b0, .int .i64 b1, .int .i64 b2]] (by rfl) rfl rfl (by simp only [List.map_toArray, List.map_cons, List.map_nil]; rfl) ?_
      with_reducible refine (r_no HRB.out _).mono ?_
      rintro e x4 ⟨rfl, hb⟩
      refine ⟨_, rfl, ?_⟩
      have HB4 : Held (Below W0 w x4) := ⟨HB3.out.trans (hb.mono (by have := HB3.out.size; rw [HW0.out] at this; exact this))⟩
      have HN4 := Held.mk (HN3.out.keep (Keep.of_below hb (fun _ => False)) (fun h => h))
      have HM4 := Held.mk (HM3.out.keep (Keep.of_below hb (fun _ => False)) (fun h => h))
      have dk0 := HN4.out.cell 0
      have dk1 := HN4.out.cell 1
      have dk2 := HN4.out.cell 2
      have dj0 := HM4.out.cell 0
      have dj1 := HM4.out.cell 1
      have dj2 := HM4.out.cell 2
      simp at dk0 dk1 dk2 dj0 dj1 dj2
      clear hb HB3 HN3 HM3
      refine hK.out _ _ ⟨dk0, dk1, dk2, dj0, dj1, dj2⟩ (fun hHeld => ?_)
      clear hK K
      refine norm_ (a' := ?_) ?_ ?_
      rotate_left
      · show Act.put _ (some 40) _ = _
        simp only [Act.put, List.setIfInBounds_toArray, List.set_cons_zero, List.set_cons_succ, i64_w, i32_w]
        rfl
      refine pure_ (i := 10) (N := some 41) (v := ?_) (a' := ?_) #[true, true, true, true, true, true, true, true, true, true, true, false, false, false, false, false] rfl rfl (by kernel_rfl) (fun _ _ _ h => h) (Or.inl ⟨by rfl, ?_⟩) ?_ ?_
      rotate_left
      · intro w'
        go_simp
        with_reducible rfl
      rotate_left
      · simp only [Act.put, List.setIfInBounds_toArray, List.set_cons_zero, List.set_cons_succ, i64_w, i32_w]
        rfl
      refine pure_ (i := 11) (N := some 42) (v := ?_) (a' := ?_) #[true, true, true, true, true, true, true, true, true, true, true, true, false, false, false, false] rfl rfl (by kernel_rfl) (fun _ _ _ h => h) (Or.inl ⟨by rfl, ?_⟩) ?_ ?_
      rotate_left
      · intro w'
        go_simp
        with_reducible rfl
      rotate_left
      · simp only [Act.put, List.setIfInBounds_toArray, List.set_cons_zero, List.set_cons_succ, i64_w, i32_w]
        rfl
      refine pure_ (i := 12) (N := some 43) (v := ?_) (a' := ?_) #[true, true, true, true, true, true, true, true, true, true, true, true, true, false, false, false] rfl rfl (by kernel_rfl) (fun _ _ _ h => h) (Or.inl ⟨by rfl, ?_⟩) ?_ ?_
      rotate_left
      · intro w'
        go_simp
        with_reducible rfl
      rotate_left
      · simp only [Act.put, List.setIfInBounds_toArray, List.set_cons_zero, List.set_cons_succ, i64_w, i32_w]
        rfl
      refine one_ (i := 13) (N := some 44) #[true, true, true, true, true, true, true, true, true, true, true, true, true, true, false, false] rfl rfl (by kernel_rfl) (by decide) (fun K hK => ?_)
      refine goes_ Try.func9 (by kernel_rfl) rfl #[] (by rfl) rfl rfl (by first | (simp only [List.map_toArray, List.map_cons, List.map_nil]; done) | (simp only [List.map_toArray, List.map_cons, List.map_nil]; rfl) | rfl) ?_
      with_reducible refine (shown_any _).mono ?_
      rintro e x5 ⟨rfl, hb⟩
      refine ⟨_, rfl, ?_⟩
      have HB5 : Held (Below W0 w x5) := ⟨HB4.out.trans (hb.mono (by have := HB4.out.size; rw [HW0.out] at this; exact this))⟩
      have HN5 := Held.mk (HN4.out.keep (Keep.of_below hb (fun _ => False)) (fun h => h))
      have HM5 := Held.mk (HM4.out.keep (Keep.of_below hb (fun _ => False)) (fun h => h))
      have ek0 := HN5.out.cell 0
      have ek1 := HN5.out.cell 1
      have ek2 := HN5.out.cell 2
      have ej0 := HM5.out.cell 0
      have ej1 := HM5.out.cell 1
      have ej2 := HM5.out.cell 2
      simp at ek0 ek1 ek2 ej0 ej1 ej2
      clear hb HB4 HN4 HM4
      refine hK.out _ _ ⟨ek0, ek1, ek2, ej0, ej1, ej2⟩ (fun hHeld => ?_)
      clear hK K
      refine norm_ (a' := ?_) ?_ ?_
      rotate_left
      · show Act.put _ (some 44) _ = _
        simp only [Act.put, List.setIfInBounds_toArray, List.set_cons_zero, List.set_cons_succ, i64_w, i32_w]
        rfl
      refine pure_ (i := 14) (N := some 45) (v := ?_) (a' := ?_) #[true, true, true, true, true, true, true, true, true, true, true, true, true, true, true, false] rfl rfl (by kernel_rfl) (fun _ _ _ h => h) (Or.inl ⟨by rfl, ?_⟩) ?_ ?_
      rotate_left
      · intro w'
        go_simp
        with_reducible rfl
      rotate_left
      · simp only [Act.put, List.setIfInBounds_toArray, List.set_cons_zero, List.set_cons_succ, i64_w, i32_w]
        rfl
      refine pure_ (i := 15) (N := some 46) (v := ?_) (a' := ?_) #[true, true, true, true, true, true, true, true, true, true, true, true, true, true, true, true] rfl rfl (by kernel_rfl) (fun _ _ _ h => h) (Or.inl ⟨by rfl, ?_⟩) ?_ ?_
      rotate_left
      · intro w'
        go_simp
        with_reducible rfl
      rotate_left
      · simp only [Act.put, List.setIfInBounds_toArray, List.set_cons_zero, List.set_cons_succ, i64_w, i32_w]
        rfl
      refine done_ (by kernel_rfl) ?_
      clear hHeld k0 k1 k2 j0 j1 j2 ck0 ck1 ck2 cj0 cj1 cj2 dk0 dk1 dk2 dj0 dj1 dj2 ek0 ek1 ek2 ej0 ej1 ej2
      go_wp2_with fail
      by_cases hn : 1 ≤ n ∧ n ≤ 3652059
      · obtain ⟨hn1, hn2⟩ := hn
        have c91 : decide (n < 1) = false := decide_eq_false (by omega)
        have c92 : decide (3652059 < n) = false := decide_eq_false (by omega)
        refine (of_in n _ hn1 hn2).mono ?_
        rintro e z1 ⟨y', m', d', rfl, hR, hN, hb⟩
        have HR := Held.mk hR
        have HN := Held.mk hN
        have HZ1 : Held (Below W0 w z1) := ⟨HB5.out.trans (hb.mono (by have := HB5.out.size; rw [HW0.out] at this; exact this))⟩
        clear hb hR hN
        unfold Dt
        have HZ2 : Held (Below W0 w (z1.alloc (.cells #[.int .i64 y', .int .i64 m', .int .i64 d'] 23))) := ⟨HZ1.out.alloc (by have := HZ1.out.size; rw [HW0.out] at this; exact this) _⟩
        have HP2 := Held.mk (Blk.new z1 23 #[.int .i64 y', .int .i64 m', .int .i64 d'])
        go_wp2_with fail
        generalize z1.alloc (.cells #[.int .i64 y', .int .i64 m', .int .i64 d'] 23) = z2 at *
        refine (number_in y' m' d' z2 HR.out).mono ?_
        rintro e z3 ⟨rfl, hb⟩
        rw [HN.out]
        have HZ3 : Held (Below W0 w z3) := ⟨HZ2.out.trans (hb.mono (by have := HZ2.out.size; rw [HW0.out] at this; exact this))⟩
        have HP3 := Held.mk (HP2.out.keep (Keep.of_below hb (fun _ => False)) (fun h => h))
        have q0 := HP3.out.cell 0
        have q1 := HP3.out.cell 1
        have q2 := HP3.out.cell 2
        simp at q0 q1 q2
        clear hb
        go_wp2_with fail
        refine (r_yes HR.out z3).mono ?_
        rintro e z4 ⟨rfl, hb⟩
        have HZ4 : Held (Below W0 w z4) := ⟨HZ3.out.trans (hb.mono (by have := HZ3.out.size; rw [HW0.out] at this; exact this))⟩
        clear hb
        go_wp2
        go_ret
        exact ⟨rfl, HZ4.out⟩
      · have hcn : decide (n < 1) = true ∨ decide (n < 1) = false ∧ decide (3652059 < n) = true := by
          simp only [decide_eq_true_eq, decide_eq_false_iff_not]
          omega
        refine (of_out n _ hn).mono ?_
        rintro e z1 ⟨rfl, hb⟩
        have HZ1 : Held (Below W0 w z1) := ⟨HB5.out.trans (hb.mono (by have := HB5.out.size; rw [HW0.out] at this; exact this))⟩
        have HZ2 := HZ1.out.size
        rw [HW0.out] at HZ2
        clear hb hn
        unfold Dt errDateV
        rcases hcn with c91 | ⟨c91, c92⟩
        · go_wp2
          go_ret
          exact ⟨rfl, HZ1.out.alloc HZ2 _⟩
        · go_wp2
          go_ret
          exact ⟨rfl, HZ1.out.alloc HZ2 _⟩
end Cal
end Go.Proofs.Ytlnkdgjlbpldpaa
