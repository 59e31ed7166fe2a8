/- The law's right and ahead. -/
import Derived.Test.YtlnkdgjlbpldpaaShown
namespace Go.Proofs.Ytlnkdgjlbpldpaa
set_option linter.unusedVariables false
set_option linter.unusedSimpArgs false
namespace Cal
open Go.RowKit Mem Go.Proofs.YtlnkdgjlbpldpaaW.PrintLast Go.Maps

def rightRes (y m d : Int) (w : World) (e : Ending) (w' : World) : Prop := ∃ q : Bool, (q = true ↔ Right y m d) ∧ e = .returned (.bool q) ∧ Below w.heap.size w w'
set_option maxHeartbeats 8000000 in
set_option maxRecDepth 100000 in
theorem right_far (y m d : Int) (w : World) (h : ¬ (1 ≤ y ∧ y ≤ 9999 ∧ 1 ≤ m ∧ m ≤ 12 ∧ 1 ≤ d ∧ d ≤ 31)) : Calls Try.prog 8 #[Dt y m d] w (rightRes y m d w) := by
  unfold Dt
  have hno : ¬ Right y m d := fun hR => h ⟨hR.y1, hR.y2, hR.m1, hR.m2, hR.d1, Int.le_trans hR.d2 (len_hi y m hR.m1 hR.m2)⟩
  have Hno := Held.mk hno
  have hc : decide (y < 1) = true ∨ decide (y < 1) = false ∧ decide (9999 < y) = true ∨ decide (y < 1) = false ∧ decide (9999 < y) = false ∧ decide (m < 1) = true ∨ decide (y < 1) = false ∧ decide (9999 < y) = false ∧ decide (m < 1) = false ∧ decide (12 < m) = true ∨
      decide (y < 1) = false ∧ decide (9999 < y) = false ∧ decide (m < 1) = false ∧ decide (12 < m) = false ∧ decide (d < 1) = true ∨
      decide (y < 1) = false ∧ decide (9999 < y) = false ∧ decide (m < 1) = false ∧ decide (12 < m) = false ∧ decide (d < 1) = false ∧ decide (31 < d) = true := by simp only [decide_eq_true_eq, decide_eq_false_iff_not]; omega
  clear h hno
  rcases hc with d0 | ⟨d0, d1⟩ | ⟨d0, d1, d2⟩ | ⟨d0, d1, d2, d3⟩ | ⟨d0, d1, d2, d3, d4⟩ | ⟨d0, d1, d2, d3, d4, d5⟩ <;>
  · go_enter Try.func8, Try.ntmps8
    go_wp2
    go_ret
    exact ⟨false, by simp [Hno.out], rfl, (Below.refl _ _).alloc (Nat.le_refl _) _⟩
theorem length30 (y m : Int) (h : m = 4 ∨ m = 6 ∨ m = 9 ∨ m = 11) : lengthI y m = 30 := by rcases h with rfl | rfl | rfl | rfl <;> simp [lengthI, aheadI]
theorem length31 (y m : Int) (h : m = 1 ∨ m = 3 ∨ m = 5 ∨ m = 7 ∨ m = 8 ∨ m = 10 ∨ m = 12) : lengthI y m = 31 := by rcases h with rfl | rfl | rfl | rfl | rfl | rfl | rfl <;> simp [lengthI, aheadI]
theorem length2 (y : Int) : lengthI y 2 = 28 + leapI y := by simp [lengthI, aheadI]
set_option maxHeartbeats 8000000 in
set_option maxRecDepth 100000 in
theorem right_near (y m d : Int) (w : World) (hy1 : 1 ≤ y) (hy2 : y ≤ 9999) (hm1 : 1 ≤ m) (hm2 : m ≤ 12) (hd1 : 1 ≤ d) (hd2 : d ≤ 31) : Calls Try.prog 8 #[Dt y m d] w (rightRes y m d w) := by
  unfold Dt
  have d0 : decide (y < 1) = false := decide_eq_false (by omega)
  have d1 : decide (9999 < y) = false := decide_eq_false (by omega)
  have d2 : decide (m < 1) = false := decide_eq_false (by omega)
  have d3 : decide (12 < m) = false := decide_eq_false (by omega)
  have d4 : decide (d < 1) = false := decide_eq_false (by omega)
  have d5 : decide (31 < d) = false := decide_eq_false (by omega)
  have Hy1 := Held.mk hy1
  have Hy2 := Held.mk hy2
  have Hd1 := Held.mk hd1
  have hm : (m = 4 ∨ m = 6 ∨ m = 9 ∨ m = 11) ∨ (m = 1 ∨ m = 3 ∨ m = 5 ∨ m = 7 ∨ m = 8 ∨ m = 10 ∨ m = 12) ∨ m = 2 := by omega
  rcases hm with hm | hm | rfl
  · have Hiff : Held (Right y m d ↔ d ≤ 30) := ⟨⟨fun h => by have := h.d2; rwa [length30 y m hm] at this, fun h => ⟨hy1, hy2, hm1, hm2, hd1, by rw [length30 y m hm]; exact h⟩⟩⟩
    have hq : decide (d ≤ 30) = true ∨ decide (d ≤ 30) = false := by cases decide (d ≤ 30) <;> simp
    clear hy1 hy2 hm1 hm2 hd1 hd2
    rcases hq with hq | hq <;> rcases hm with rfl | rfl | rfl | rfl <;>
    · have Hq := Held.mk hq
      go_enter Try.func8, Try.ntmps8
      go_wp2
      go_ret
      first
        | exact ⟨true, by simp [Hiff.out, of_decide_eq_true Hq.out], by first | rfl | (rw [Hq.out]; rfl), (Below.refl _ _).alloc (Nat.le_refl _) _⟩
        | exact ⟨false, by simp [Hiff.out]; exact Int.not_le.1 (of_decide_eq_false Hq.out), by first | rfl | (rw [Hq.out]; rfl), (Below.refl _ _).alloc (Nat.le_refl _) _⟩
  · have HR : Held (Right y m d) := ⟨⟨hy1, hy2, hm1, hm2, hd1, by rw [length31 y m hm]; exact hd2⟩⟩
    clear hy1 hy2 hm1 hm2 hd1 hd2
    rcases hm with rfl | rfl | rfl | rfl | rfl | rfl | rfl <;>
    · go_enter Try.func8, Try.ntmps8
      have hlp : (y.tmod 4 == 0) = true ∨ (y.tmod 4 == 0) = false := by cases (y.tmod 4 == 0) <;> simp
      have hlq : (y.tmod 100 != 0) = true ∨ (y.tmod 100 != 0) = false := by cases (y.tmod 100 != 0) <;> simp
      rcases hlp with hlp | hlp
      · rcases hlq with hlq | hlq
        · go_wp2
          go_ret
          exact ⟨true, by simp [HR.out], rfl, (Below.refl _ _).alloc (Nat.le_refl _) _⟩
        · go_wp2
          go_ret
          exact ⟨true, by simp [HR.out], rfl, (Below.refl _ _).alloc (Nat.le_refl _) _⟩
      · go_wp2
        go_ret
        exact ⟨true, by simp [HR.out], rfl, (Below.refl _ _).alloc (Nat.le_refl _) _⟩
  · have hl2 := length2 y
    have e4 : y.tmod 4 = y % 4 := Int.tmod_eq_emod_of_nonneg (by omega)
    have e100 : y.tmod 100 = y % 100 := Int.tmod_eq_emod_of_nonneg (by omega)
    have e400 : y.tmod 400 = y % 400 := Int.tmod_eq_emod_of_nonneg (by omega)
    have hlp : ((y.tmod 4 == 0) = false ∧ leapI y = 0) ∨ ((y.tmod 4 == 0) = true ∧ (y.tmod 100 != 0) = true ∧ leapI y = 1) ∨ ((y.tmod 4 == 0) = true ∧ (y.tmod 100 != 0) = false ∧ (y.tmod 400 == 0) = true ∧ leapI y = 1) ∨ ((y.tmod 4 == 0) = true ∧ (y.tmod 100 != 0) = false ∧ (y.tmod 400 == 0) = false ∧ leapI y = 0) := by
      rw [e4, e100, e400]
      unfold leapI leapB
      cases (y % 4 == 0) <;> cases (y % 100 != 0) <;> cases (y % 400 == 0) <;> simp
    have hdd : (decide (d ≤ 28) = true ∧ d ≤ 28) ∨ (decide (d ≤ 28) = false ∧ (d == 29) = true ∧ d = 29) ∨ (decide (d ≤ 28) = false ∧ (d == 29) = false ∧ 29 < d) := by
      by_cases h : d ≤ 28
      · exact .inl ⟨decide_eq_true h, h⟩
      · by_cases h2 : d = 29
        · exact .inr (.inl ⟨decide_eq_false h, by simp [h2], h2⟩)
        · exact .inr (.inr ⟨decide_eq_false h, by simp [h2], by omega⟩)
    have Hiff : Held (Right y 2 d ↔ d ≤ lengthI y 2) := ⟨⟨fun h => h.d2, fun h => ⟨hy1, hy2, hm1, hm2, hd1, h⟩⟩⟩
    clear e4 e100 e400 hy1 hy2 hm1 hm2 hd1 hd2
    rcases hlp with ⟨l0, l1⟩ | ⟨l0, l2, l1⟩ | ⟨l0, l2, l3, l1⟩ | ⟨l0, l2, l3, l1⟩ <;> rcases hdd with ⟨f0, f1⟩ | ⟨f0, f2, f1⟩ | ⟨f0, f2, f1⟩ <;>
    · rw [l1] at hl2
      rw [hl2] at Hiff
      have HF := Held.mk f1
      clear l1 f1 hl2
      go_enter Try.func8, Try.ntmps8
      go_wp2
      go_ret
      first
        | exact ⟨true, ⟨fun _ => Hiff.out.2 (by have := HF.out; omega), fun _ => rfl⟩, rfl, (Below.refl _ _).alloc (Nat.le_refl _) _⟩
        | exact ⟨false, ⟨fun h => (nomatch h), fun h => absurd (Hiff.out.1 h) (by have := HF.out; omega)⟩, rfl, (Below.refl _ _).alloc (Nat.le_refl _) _⟩
theorem right_any (y m d : Int) (w : World) : Calls Try.prog 8 #[Dt y m d] w (rightRes y m d w) := by
  by_cases h : 1 ≤ y ∧ y ≤ 9999 ∧ 1 ≤ m ∧ m ≤ 12 ∧ 1 ≤ d ∧ d ≤ 31
  · exact right_near y m d w h.1 h.2.1 h.2.2.1 h.2.2.2.1 h.2.2.2.2.1 h.2.2.2.2.2
  · exact right_far y m d w h
theorem right_yes (y m d : Int) (w : World) (h : Right y m d) : Calls Try.prog 8 #[Dt y m d] w fun e w' => e = .returned (.bool true) ∧ Below w.heap.size w w' :=
  (right_any y m d w).mono (fun e w' ⟨q, hq, he, hb⟩ => by rw [hq.2 h] at he; exact ⟨he, hb⟩)
theorem right_no (y m d : Int) (w : World) (h : ¬ Right y m d) : Calls Try.prog 8 #[Dt y m d] w fun e w' => e = .returned (.bool false) ∧ Below w.heap.size w w' :=
  (right_any y m d w).mono (fun e w' ⟨q, hq, he, hb⟩ => by
    cases q
    · exact ⟨he, hb⟩
    · exact absurd (hq.1 rfl) h)
def aheadRes (a0 a1 a2 b0 b1 b2 : Int) (w : World) (e : Ending) (w' : World) : Prop := ∃ q : Bool, (q = true ↔ (a0 < b0 ∨ a0 = b0 ∧ (a1 < b1 ∨ a1 = b1 ∧ a2 < b2))) ∧ e = .returned (.bool q) ∧ Below w.heap.size w w'
set_option maxHeartbeats 8000000 in
set_option maxRecDepth 100000 in
theorem aheadL_any (a0 a1 a2 b0 b1 b2 : Int) (w : World) : Calls Try.prog 12 #[Dt a0 a1 a2, Dt b0 b1 b2] w (aheadRes a0 a1 a2 b0 b1 b2 w) := by
  unfold Dt
  have HB : Held (Below w.heap.size w ((w.alloc (.cells #[.int .i64 a0, .int .i64 a1, .int .i64 a2] 23)).alloc (.cells #[.int .i64 b0, .int .i64 b1, .int .i64 b2] 23))) := ⟨((Below.refl _ _).alloc (Nat.le_refl _) _).alloc (by simp) _⟩
  have hN1 := (Blk.new w 23 #[.int .i64 a0, .int .i64 a1, .int .i64 a2]).alloc (.cells #[.int .i64 b0, .int .i64 b1, .int .i64 b2] 23)
  have k0 : ((w.alloc (.cells #[.int .i64 a0, .int .i64 a1, .int .i64 a2] 23)).alloc (.cells #[.int .i64 b0, .int .i64 b1, .int .i64 b2] 23)).cell? ⟨w.heap.size, 0, none⟩ = some (.int .i64 a0) := hN1.cell 0
  have k1 : ((w.alloc (.cells #[.int .i64 a0, .int .i64 a1, .int .i64 a2] 23)).alloc (.cells #[.int .i64 b0, .int .i64 b1, .int .i64 b2] 23)).cell? ⟨w.heap.size, 1, none⟩ = some (.int .i64 a1) := hN1.cell 1
  have k2 : ((w.alloc (.cells #[.int .i64 a0, .int .i64 a1, .int .i64 a2] 23)).alloc (.cells #[.int .i64 b0, .int .i64 b1, .int .i64 b2] 23)).cell? ⟨w.heap.size, 2, none⟩ = some (.int .i64 a2) := hN1.cell 2
  clear hN1
  have hc : ((a0 != b0) = true ∧ a0 ≠ b0) ∨ ((a0 != b0) = false ∧ a0 = b0 ∧ (a1 != b1) = true ∧ a1 ≠ b1) ∨ ((a0 != b0) = false ∧ a0 = b0 ∧ (a1 != b1) = false ∧ a1 = b1) := by
    by_cases h : a0 = b0
    · by_cases h2 : a1 = b1
      · exact .inr (.inr ⟨by simp [h], h, by simp [h2], h2⟩)
      · exact .inr (.inl ⟨by simp [h], h, by simp [h2], h2⟩)
    · exact .inl ⟨by simp [h], h⟩
  rcases hc with ⟨c1, c2⟩ | ⟨c1, c2, c3, c4⟩ | ⟨c1, c2, c3, c4⟩
  · have H2 := Held.mk c2
    clear c2
    go_enter Try.func12, Try.ntmps12
    go_wp2
    go_ret
    exact ⟨decide (a0 < b0), by have := H2.out; simp only [decide_eq_true_eq]; omega, rfl, HB.out⟩
  · have H2 := Held.mk c2
    have H4 := Held.mk c4
    clear c2 c4
    go_enter Try.func12, Try.ntmps12
    go_wp2
    go_ret
    exact ⟨decide (a1 < b1), by have := H2.out; have := H4.out; simp only [decide_eq_true_eq]; omega, rfl, HB.out⟩
  · have H2 := Held.mk c2
    have H4 := Held.mk c4
    clear c2 c4
    go_enter Try.func12, Try.ntmps12
    go_wp2
    go_ret
    exact ⟨decide (a2 < b2), by have := H2.out; have := H4.out; simp only [decide_eq_true_eq]; omega, rfl, HB.out⟩
theorem number_no (y m d : Int) (w : World) (h : ¬ Right y m d) : Calls Try.prog 7 #[Dt y m d] w fun e w' => e = .returned (.tuple #[.int .i64 0, noDayV]) ∧ Below w.heap.size w w' := by
  by_cases hr : 1 ≤ y ∧ y ≤ 9999 ∧ 1 ≤ m ∧ m ≤ 12 ∧ 1 ≤ d
  · exact number_call y m d _ w _ hr.1 hr.2.1 hr.2.2.1 hr.2.2.2.1 hr.2.2.2.2 rfl (fun _ w' hb => ⟨rfl, hb⟩) (fun hl => absurd (⟨hr.1, hr.2.1, hr.2.2.1, hr.2.2.2.1, hr.2.2.2.2, hl⟩ : Right y m d) h)
  · exact number_far y m d w hr
end Cal
end Go.Proofs.Ytlnkdgjlbpldpaa
