/- CalendarWeeks: the walk. -/
import Derived.Test.YtlnkdgjlbpldpaaShown
namespace Go.Proofs.Ytlnkdgjlbpldpaa
set_option linter.unusedVariables false
set_option linter.unusedSimpArgs false
namespace Cal
open Go.RowKit Mem Go.Proofs.YtlnkdgjlbpldpaaW.PrintLast Go.Maps

/-! Plain. -/
theorem th_same {n i : Int} (h1 : n - (n + 6) % 7 ≤ i) (h2 : i < n - (n + 6) % 7 + 7) : thI i = thI n := by unfold thI; omega
theorem th_next (n : Int) : thI (n + 7) = thI n + 7 := by unfold thI; omega
theorem week_rng {y t : Int} (h1 : ysI y < t) (h2 : t ≤ ysI y + 366) : 1 ≤ (t - (ysI y + 1)) / 7 + 1 ∧ (t - (ysI y + 1)) / 7 + 1 ≤ 53 := by
  generalize ysI y = s at *
  omega
theorem week_step {s s' t : Int} (h1 : s < t) (h2 : t ≤ s') (h3 : s + 365 ≤ s') (h4 : s' < t + 7) : (t + 7 - (s' + 1)) / 7 + 1 = 1 ∧ 52 ≤ (t - (s + 1)) / 7 + 1 := by omega
theorem week_next {y m d y2 m2 d2 t : Int} (hR : Right y m d) (hN : numI y m d = t) (hR2 : Right y2 m2 d2) (hN2 : numI y2 m2 d2 = t + 7) :
    (y2 = y ∧ (t + 7 - (ysI y2 + 1)) / 7 + 1 = (t - (ysI y + 1)) / 7 + 1 + 1) ∨ (y2 = y + 1 ∧ (t + 7 - (ysI y2 + 1)) / 7 + 1 = 1 ∧ 52 ≤ (t - (ysI y + 1)) / 7 + 1) := by
  have n1 := hR.num
  have n2 := hR2.num
  rw [hN] at n1
  rw [hN2] at n2
  have hl := leapI_cases y
  have hl2 := leapI_cases y2
  have hs := ys_step y hR.y1
  by_cases h1 : y2 = y
  · subst h1
    exact .inl ⟨rfl, by generalize ysI y2 = s at *; omega⟩
  · have h2 : y < y2 := by
      by_cases h2 : y < y2
      · exact h2
      · have := ys_mono hR2.y1 (show y2 < y by omega)
        omega
    have h3 : y2 = y + 1 := by
      by_cases h3 : y + 1 < y2
      · have := ys_mono (show 1 ≤ y + 1 by have := hR.y1; omega) h3
        have hl3 := leapI_cases (y + 1)
        omega
      · omega
    subst h3
    have := week_step (s := ysI y) (s' := ysI (y + 1)) (t := t) (by omega) (by omega) (by omega) (by omega)
    exact .inr ⟨rfl, this.1, this.2⟩

set_option maxHeartbeats 8000000 in
set_option maxRecDepth 1000000 in
theorem weeks_any (n : Int) (w : World) : Calls Try.prog 4 #[.int .i64 n] w fun e w' => e = .returned (.bool true) ∧ Below w.heap.size w w' := by
  by_cases hd : isD n
  · have Hd := Held.mk hd
    obtain ⟨hd1, hd2⟩ := hd
    have hw0 : 0 ≤ (n + 6) % 7 := by omega
    have hw1 : (n + 6) % 7 ≤ 6 := by omega
    by_cases hb : n ≤ 3652052
    · have c1 : decide (n < 1) = false := decide_eq_false (by omega)
      have c2 : decide (3652052 < n) = false := decide_eq_false (by omega)
      have e7 : (n + 7 + 6) % 7 = (n + 6) % 7 := by omega
      have e1 : ((n + 6) % 7 + 1).tmod 7 = (n + 1 + 6) % 7 := by rw [Int.tmod_eq_emod_of_nonneg (by omega)]; omega
      have Hsame : Held (∀ i, n - (n + 6) % 7 ≤ i → i < n - (n + 6) % 7 + 7 → thI i = thI n) := ⟨fun i h1 h2 => th_same h1 h2⟩
      have hth := th_in hd1 hd2
      have Hte : Held (thI n = n - (n + 6) % 7 + 3) := ⟨rfl⟩
      have hlo : 1 ≤ n - (n + 6) % 7 := by omega
      have hnx0 : 0 ≤ (n + 1 + 6) % 7 := by omega
      have hnx1 : (n + 1 + 6) % 7 ≤ 6 := by omega
      have E7 := Held.mk e7
      clear e7
      go_enter Try.func4, Try.ntmps4
      go_wp2_with fail
      refine (weekday_in n w hd1 hd2).mono ?_
      rintro e w1 ⟨rfl, rfl⟩
      go_wp2_with fail
      refine (weekday_in (n + 7) w (by omega) (by omega)).mono ?_
      rintro e w1 ⟨rfl, rfl⟩
      rw [E7.out]
      go_wp2_with fail
      refine (weekday_in (n + 1) w (by omega) (by omega)).mono ?_
      rintro e w1 ⟨rfl, rfl⟩
      generalize (n + 1 + 6) % 7 = nx at *
      generalize (n + 6) % 7 = wd at *
      have c3 : decide (wd < 0) = false := decide_eq_false (by omega)
      have c4 : decide (6 < wd) = false := decide_eq_false (by omega)
      go_wp2_with fail
      refine (week_in n w hd1 hd2).mono ?_
      rintro e w1 ⟨y, m, d, rfl, hR, hN, hb1⟩
      have HR := Held.mk hR
      have HN := Held.mk hN
      have HB1 := Held.mk hb1
      have hwr : 1 ≤ (thI n - (ysI y + 1)) / 7 + 1 ∧ (thI n - (ysI y + 1)) / 7 + 1 ≤ 53 := by
        have := hR.num
        rw [hN] at this
        exact week_rng this.1 (by have := leapI_cases y; omega)
      have hy1 := hR.y1
      have hy2 := hR.y2
      clear hR hN hb1
      obtain ⟨wk, hwk⟩ : ∃ wk, (thI n - (ysI y + 1)) / 7 + 1 = wk := ⟨_, rfl⟩
      rw [hwk] at hwr ⊢
      have Hwk := Held.mk hwk
      clear hwk
      obtain ⟨hwk1, hwk2⟩ := hwr
      have c5 : decide (wk < 1) = false := decide_eq_false (by omega)
      have c6 : decide (53 < wk) = false := decide_eq_false (by omega)
      go_wp2
      go_loopw [11] (fun u wr => ∃ i : Int, u = .int .i64 i ∧ n - wd ≤ i ∧ i ≤ n - wd + 7 ∧ Held (Below w.heap.size w wr)) (fun u _ => (n - wd + 7 - intOf u).toNat)
      case atStart => exact ⟨n - wd, rfl, by omega, by omega, HB1⟩
      case round =>
        obtain ⟨i, rfl, hi1, hi2, HB⟩ := hrel
        by_cases hlt : i < n - wd + 7
        · have hs := Hsame.out i hi1 hlt
          have Hs := Held.mk hs
          clear hs
          go_wp2_with fail
          refine (week_in i wr (by omega) (by omega)).mono ?_
          rintro e w2 ⟨y', m', d', rfl, hR', hN', hb2⟩
          rw [Hs.out] at hN' ⊢
          obtain ⟨rfl, rfl, rfl⟩ := hR'.inj HR.out (by rw [hN', HN.out])
          rw [Hwk.out]
          have HB2 : Held (Below w.heap.size w w2) := ⟨HB.out.trans (hb2.mono HB.out.size)⟩
          clear hb2 hR' hN'
          go_wp2
          go_roundw
          case rel => exact ⟨i + 1, by go_num, by omega, by omega, HB2⟩
          case measure => simp [intOf]; omega
        · obtain rfl : i = n - wd + 7 := by omega
          go_wp2_with fail
          refine (week_in (n + 7) wr (by omega) (by omega)).mono ?_
          rintro e w2 ⟨y2, m2, d2, rfl, hR2, hN2, hb2⟩
          rw [th_next] at hN2 ⊢
          have hcase := week_next HR.out HN.out hR2 hN2
          have hy21 := hR2.y1
          have hy22 := hR2.y2
          rw [Hwk.out] at hcase
          have HB2 : Held (Below w.heap.size w w2) := ⟨HB.out.trans (hb2.mono HB.out.size)⟩
          clear hR2 hN2 hb2
          generalize (thI n + 7 - (ysI y2 + 1)) / 7 + 1 = wk2 at *
          have Hcase := Held.mk hcase
          clear hcase
          have hth3 : n - wd + 3 = thI n := Hte.out.symm
          go_wp2_with fail
          refine (of_in (thI n) w2 hth.1 hth.2).mono ?_
          rintro e w3 ⟨y', m', d', rfl, hR', hN', hb3⟩
          obtain ⟨rfl, rfl, rfl⟩ := hR'.inj HR.out (by rw [hN', HN.out])
          have HB3 : Held (Below w.heap.size w w3) := ⟨HB2.out.trans (hb3.mono HB2.out.size)⟩
          have hs3 := HB3.out.size
          clear hb3 hR' hN'
          unfold Dt
          rcases Hcase.out with ⟨rfl, rfl⟩ | ⟨rfl, rfl, h52⟩
          · go_wp2
            go_ret
            exact ⟨rfl, HB3.out.alloc hs3 _⟩
          · have cy : (y' + 1 == y') = false := beq_eq_false_iff_ne.2 (by omega)
            have c52 : decide (52 ≤ wk) = true := decide_eq_true h52
            go_wp2
            go_ret
            exact ⟨rfl, HB3.out.alloc hs3 _⟩
    · have c1 : decide (n < 1) = false := decide_eq_false (by omega)
      have c2 : decide (3652052 < n) = true := decide_eq_true (by omega)
      have c3 : decide (1 ≤ n) = true := decide_eq_true (by omega)
      have c4 : decide (n ≤ 3652059) = true := decide_eq_true (by omega)
      go_enter Try.func4, Try.ntmps4
      go_wp2_with fail
      refine (weekday_in n w hd1 hd2).mono ?_
      rintro e w1 ⟨rfl, rfl⟩
      go_wp2_with fail
      refine (shown_any _).mono ?_
      rintro e w2 ⟨rfl, hb2⟩
      have HB2 := Held.mk hb2
      clear hb2
      go_wp2
      go_ret
      exact ⟨rfl, HB2.out⟩
  · have hc : decide (n < 1) = true ∧ decide (1 ≤ n) = false ∨ decide (n < 1) = false ∧ decide (3652052 < n) = true ∧ decide (1 ≤ n) = true ∧ decide (n ≤ 3652059) = false := by
      simp only [decide_eq_true_eq, decide_eq_false_iff_not]
      unfold isD at hd
      omega
    have Hd := Held.mk hd
    clear hd
    rcases hc with ⟨c1, c2⟩ | ⟨c1, c2, c3, c4⟩ <;>
    · go_enter Try.func4, Try.ntmps4
      go_wp2_with fail
      refine (weekday_out n w Hd.out).mono ?_
      rintro e w1 ⟨rfl, rfl⟩
      unfold noDayV
      go_wp2_with fail
      refine (shown_any _).mono ?_
      rintro e w2 ⟨rfl, hb2⟩
      have HB2 := Held.mk hb2
      clear hb2
      go_wp2
      go_ret
      exact ⟨rfl, HB2.out⟩
end Cal
end Go.Proofs.Ytlnkdgjlbpldpaa
