/- The document's answer: rest, over, Easter, Months. -/
import Derived.Test.YtlnkdgjlbpldpaaDoorSho2
import Derived.Test.YtlnkdgjlbpldpaaDoorRef
import Derived.Test.YtlnkdgjlbpldpaaDoorEaq
namespace Go.Proofs.YtlnkdgjlbpldpaaDoor
set_option linter.unusedVariables false
set_option linter.unusedSimpArgs false
namespace Cal
open Go.RowKit Mem Go.Proofs.YtlnkdgjlbpldpaaDoorW.PrintLast

set_option maxHeartbeats 2000000 in
set_option maxRecDepth 100000 in
theorem rest_any (a b : Int) (w : World) (ha1 : -1000000000 ≤ a) (ha2 : a ≤ 1000000000) (hb1 : 1 ≤ b) (hb2 : b ≤ 1000) :
    Calls Tryd.prog 44 #[.int .i64 a, .int .i64 b] w fun e w' => e = .returned (.int .i64 (a % b)) ∧ w = w' := by
  have h1 := Int.emod_nonneg a (show b ≠ 0 by omega)
  have h2 := Int.emod_lt_of_pos a (show 0 < b by omega)
  have key : ∃ v, a.tmod b = v ∧ -1000 ≤ v ∧ v ≤ 1000 ∧ (v + b).tmod b = a % b := by
    by_cases h0 : 0 ≤ a
    · refine ⟨_, rfl, ?_⟩
      rw [Int.tmod_eq_emod_of_nonneg h0]
      refine ⟨by omega, by omega, ?_⟩
      rw [Int.tmod_eq_emod_of_nonneg (by omega), Int.add_emod_right, Int.emod_emod_of_dvd a (Int.dvd_refl b)]
    · by_cases hd : b ∣ a
      · refine ⟨0, by rw [Int.tmod_eq_emod, if_pos (.inr hd), Int.emod_eq_zero_of_dvd hd]; rfl, by omega, by omega, ?_⟩
        rw [Int.tmod_eq_emod_of_nonneg (by omega), Int.zero_add, Int.emod_self, Int.emod_eq_zero_of_dvd hd]
      · refine ⟨a % b - b, by rw [Int.tmod_eq_emod, if_neg (fun h => h.elim h0 hd)]; omega, by omega, by omega, ?_⟩
        rw [show a % b - b + b = a % b from by omega, Int.tmod_eq_emod_of_nonneg h1, Int.emod_emod_of_dvd a (Int.dvd_refl b)]
  obtain ⟨v, e1, v1, v2, e2⟩ := key
  generalize hr : a % b = r at *
  have Hr := Held.mk hr
  clear hr
  go_enter Tryd.func44, Tryd.ntmps44
  go_wp2
  go_ret
  exact ⟨rfl, rfl⟩
set_option maxHeartbeats 2000000 in
set_option maxRecDepth 100000 in
theorem over_any (a b : Int) (w : World) (ha1 : -1000000000 ≤ a) (ha2 : a ≤ 1000000000) (hb : b = 100 ∨ b = 4 ∨ b = 25 ∨ b = 12) :
    Calls Tryd.prog 45 #[.int .i64 a, .int .i64 b] w fun e w' => e = .returned (.int .i64 (a / b)) ∧ w = w' := by
  have hb1 : 1 ≤ b := by omega
  have hb2 : b ≤ 1000 := by omega
  have h1 := Int.emod_nonneg a (show b ≠ 0 by omega)
  have h2 := Int.emod_lt_of_pos a (show 0 < b by omega)
  have hdv : b ∣ a - a % b := ⟨a / b, by have := Int.emod_add_mul_ediv a b; omega⟩
  have key : (a - a % b).tdiv b = a / b := by
    rw [Int.tdiv_eq_ediv_of_dvd hdv]
    rcases hb with rfl | rfl | rfl | rfl <;> omega
  have hq : -1000000000 ≤ a / b ∧ a / b ≤ 1000000000 := by rcases hb with rfl | rfl | rfl | rfl <;> omega
  obtain ⟨hq1, hq2⟩ := hq
  clear hb hdv
  go_enter Tryd.func45, Tryd.ntmps45
  go_wp2_with fail
  refine (rest_any a b w ha1 ha2 hb1 hb2).mono ?_
  rintro e w1 ⟨rfl, rfl⟩
  generalize hqq : a / b = q at *
  have Hqq := Held.mk hqq
  clear hqq
  generalize a % b = r at *
  go_wp2
  go_ret
  exact ⟨by first | rfl | (rw [Hqq.out]; rfl), rfl⟩

set_option maxHeartbeats 8000000 in
set_option maxRecDepth 100000 in
theorem rEaster_out (y : Int) (w : World) (h : ¬ (1 ≤ y ∧ y ≤ 9999)) : Calls Tryd.prog 17 #[.int .i64 y] w fun e w' => e = .returned (.tuple #[.int .i64 0, .int .i64 8]) ∧ w = w' := by
  have hc : decide (y < 1) = true ∨ decide (y < 1) = false ∧ decide (9999 < y) = true := by simp only [decide_eq_true_eq, decide_eq_false_iff_not]; omega
  clear h
  rcases hc with h | ⟨h, h2⟩ <;>
  · go_enter Tryd.func17, Tryd.ntmps17
    go_wp2
    go_ret2
    exact ⟨rfl, rfl⟩
set_option maxHeartbeats 8000000 in
set_option maxRecDepth 100000 in
theorem rEaster_in (y : Int) (w : World) (h1 : 1 ≤ y) (h2 : y ≤ 9999) : Calls Tryd.prog 17 #[.int .i64 y] w fun e w' => e = .returned (.tuple #[.int .i64 (rEI y), .int .i64 0]) ∧ Below w.heap.size w w' := by
  obtain ⟨g, hg⟩ : ∃ g, rG y = g := ⟨_, rfl⟩
  obtain ⟨c, hc⟩ : ∃ c, rC y = c := ⟨_, rfl⟩
  have g0 : 1 ≤ g := by unfold rG at hg; omega
  have g1 : g ≤ 19 := by unfold rG at hg; omega
  have c0 : 1 ≤ c := by unfold rC at hc; omega
  have c1 : c ≤ 100 := by unfold rC at hc; omega
  obtain ⟨x, hx⟩ : ∃ x, rX y = x := ⟨_, rfl⟩
  obtain ⟨z, hz⟩ : ∃ z, rZ y = z := ⟨_, rfl⟩
  have hx' : 3 * c / 4 - 12 = x := by unfold rX at hx; rw [hc] at hx; exact hx
  have hz' : (8 * c + 5) / 25 - 5 = z := by unfold rZ at hz; rw [hc] at hz; exact hz
  have x0 : -12 ≤ x := by omega
  have x1 : x ≤ 63 := by omega
  have z0 : -5 ≤ z := by omega
  have z1 : z ≤ 27 := by omega
  obtain ⟨e0, he0⟩ : ∃ e0, rE0 y = e0 := ⟨_, rfl⟩
  have he0' : (11 * g + 20 + z - x) % 30 = e0 := by unfold rE0 at he0; rw [hg, hz, hx] at he0; exact he0
  have e00 : 0 ≤ e0 := by omega
  have e01 : e0 ≤ 29 := by omega
  have q0 : 0 ≤ 5 * y / 4 := by omega
  have q1 : 5 * y / 4 ≤ 20000 := by omega
  have HG : Held (y % 19 + 1 = g) := ⟨hg⟩
  have HC : Held (y / 100 + 1 = c) := ⟨hc⟩
  have hres : ∀ e n, (if e0 = 24 ∨ (e0 = 25 ∧ 11 < g) then e0 + 1 else e0) = e → (if 44 - e < 21 then 44 - e + 30 else 44 - e) = n → rEI y = numI y 3 1 + (n + 7 - (5 * y / 4 - x - 10 + n) % 7) - 1 := fun e n h3 h4 => by
    unfold rEI rN rE
    rw [he0, hg, h3, h4, hx]
  have Hres := Held.mk hres
  have HX := Held.mk hx'
  have HZ := Held.mk hz'
  have HE := Held.mk he0'
  clear hg hc hx hz he0 hx' hz' he0' hres
  have y19a : 0 ≤ y % 19 := by omega
  have y19b : y % 19 ≤ 18 := by omega
  have y100a : 0 ≤ y / 100 := by omega
  have y100b : y / 100 ≤ 99 := by omega
  go_enter Tryd.func17, Tryd.ntmps17
  go_wp2_with fail
  refine (rest_any y 19 w (by omega) (by omega) (by decide) (by decide)).mono ?_
  rintro e w1 ⟨rfl, rfl⟩
  have t1 := HG.out
  generalize y % 19 = y19 at *
  go_wp2_with fail
  refine (over_any y 100 w (by omega) (by omega) (by decide)).mono ?_
  rintro e w1 ⟨rfl, rfl⟩
  have t2 := HC.out
  generalize y / 100 = y100 at *
  go_wp2_with fail
  refine (over_any (3 * c) 4 w (by omega) (by omega) (by decide)).mono ?_
  rintro e w1 ⟨rfl, rfl⟩
  have t3 := HX.out
  have c3a : 0 ≤ 3 * c / 4 := by omega
  have c3b : 3 * c / 4 ≤ 75 := by omega
  generalize 3 * c / 4 = c34 at *
  go_wp2_with fail
  refine (over_any (8 * c + 5) 25 w (by omega) (by omega) (by decide)).mono ?_
  rintro e w1 ⟨rfl, rfl⟩
  have t4 := HZ.out
  have c8a : 0 ≤ (8 * c + 5) / 25 := by omega
  have c8b : (8 * c + 5) / 25 ≤ 33 := by omega
  generalize (8 * c + 5) / 25 = c825 at *
  go_wp2_with fail
  refine (over_any (5 * y) 4 w (by omega) (by omega) (by decide)).mono ?_
  rintro e w1 ⟨rfl, rfl⟩
  generalize 5 * y / 4 = q at *
  go_wp2_with fail
  refine (rest_any (11 * g + 20 + z - x) 30 w (by omega) (by omega) (by decide) (by decide)).mono ?_
  rintro e w1 ⟨rfl, rfl⟩
  rw [HE.out]
  have hr31 : Right y 3 1 := ⟨h1, h2, by omega, by omega, by omega, by have := len_lo y 3 (by omega) (by omega); omega⟩
  have HR31 := Held.mk hr31
  obtain ⟨n31a, n31b⟩ := hr31.last
  obtain ⟨n31, hn31⟩ : ∃ n31, numI y 3 1 = n31 := ⟨_, rfl⟩
  rw [hn31] at n31a n31b
  have Hn31 := Held.mk hn31
  clear hr31 hn31
  have hcase : ((e0 == 24) = true ∧ e0 = 24) ∨ ((e0 == 24) = false ∧ e0 ≠ 24 ∧ (e0 == 25) = true ∧ e0 = 25 ∧ decide (11 < g) = true) ∨ ((e0 == 24) = false ∧ e0 ≠ 24 ∧ (e0 == 25) = true ∧ e0 = 25 ∧ decide (11 < g) = false) ∨ ((e0 == 24) = false ∧ e0 ≠ 24 ∧ (e0 == 25) = false ∧ e0 ≠ 25) := by
    by_cases a1 : e0 = 24
    · exact .inl ⟨by simp [a1], a1⟩
    · by_cases a2 : e0 = 25
      · by_cases a3 : 11 < g
        · exact .inr (.inl ⟨by simp [a1], a1, by simp [a2], a2, decide_eq_true a3⟩)
        · exact .inr (.inr (.inl ⟨by simp [a1], a1, by simp [a2], a2, decide_eq_false a3⟩))
      · exact .inr (.inr (.inr ⟨by simp [a1], a1, by simp [a2], a2⟩))
  rcases hcase with ⟨b1, b2⟩ | ⟨b1, b2, b3, b4, b5⟩ | ⟨b1, b2, b3, b4, b5⟩ | ⟨b1, b2, b3, b4⟩
  · subst b2
    have Hf : Held (rEI y = n31 + (49 + 7 - (q - x - 10 + 49) % 7) - 1) := ⟨by rw [← Hn31.out]; exact Hres.out 25 49 (by simp) (by decide)⟩
    go_wp2_with fail
    refine (rest_any (q - x - 10 + 49) 7 w (by omega) (by omega) (by decide) (by decide)).mono ?_
    rintro e w1 ⟨rfl, rfl⟩
    have m0 : 0 ≤ (q - x - 10 + 49) % 7 := by omega
    have m1 : (q - x - 10 + 49) % 7 ≤ 6 := by omega
    generalize (q - x - 10 + 49) % 7 = md at *
    go_wp2_with fail
    refine (rNumber_in y 3 1 w HR31.out).mono ?_
    rintro e w2 ⟨rfl, hb⟩
    rw [Hn31.out]
    have HB := Held.mk hb
    clear hb
    go_wp2
    go_ret2
    exact ⟨by rw [Hf.out]; rfl, HB.out⟩
  · subst b4
    have Hf : Held (rEI y = n31 + (48 + 7 - (q - x - 10 + 48) % 7) - 1) := ⟨by rw [← Hn31.out]; exact Hres.out 26 48 (by have := of_decide_eq_true b5; rw [if_pos (by omega)]; rfl) (by decide)⟩
    go_wp2_with fail
    refine (rest_any (q - x - 10 + 48) 7 w (by omega) (by omega) (by decide) (by decide)).mono ?_
    rintro e w1 ⟨rfl, rfl⟩
    have m0 : 0 ≤ (q - x - 10 + 48) % 7 := by omega
    have m1 : (q - x - 10 + 48) % 7 ≤ 6 := by omega
    generalize (q - x - 10 + 48) % 7 = md at *
    go_wp2_with fail
    refine (rNumber_in y 3 1 w HR31.out).mono ?_
    rintro e w2 ⟨rfl, hb⟩
    rw [Hn31.out]
    have HB := Held.mk hb
    clear hb
    go_wp2
    go_ret2
    exact ⟨by rw [Hf.out]; rfl, HB.out⟩
  · subst b4
    have Hf : Held (rEI y = n31 + (49 + 7 - (q - x - 10 + 49) % 7) - 1) := ⟨by rw [← Hn31.out]; exact Hres.out 25 49 (by have := of_decide_eq_false b5; rw [if_neg (by omega)]) (by decide)⟩
    go_wp2_with fail
    refine (rest_any (q - x - 10 + 49) 7 w (by omega) (by omega) (by decide) (by decide)).mono ?_
    rintro e w1 ⟨rfl, rfl⟩
    have m0 : 0 ≤ (q - x - 10 + 49) % 7 := by omega
    have m1 : (q - x - 10 + 49) % 7 ≤ 6 := by omega
    generalize (q - x - 10 + 49) % 7 = md at *
    go_wp2_with fail
    refine (rNumber_in y 3 1 w HR31.out).mono ?_
    rintro e w2 ⟨rfl, hb⟩
    rw [Hn31.out]
    have HB := Held.mk hb
    clear hb
    go_wp2
    go_ret2
    exact ⟨by rw [Hf.out]; rfl, HB.out⟩
  · have hno : True := trivial
    by_cases hl : 44 - e0 < 21
    · have hd : decide (44 - e0 < 21) = true := decide_eq_true hl
      have Hf : Held (rEI y = n31 + ((44 - e0 + 30) + 7 - (q - x - 10 + (44 - e0 + 30)) % 7) - 1) := ⟨by rw [← Hn31.out]; exact Hres.out e0 (44 - e0 + 30) (by rw [if_neg (by omega)]) (by rw [if_pos hl])⟩
      go_wp2_with fail
      refine (rest_any (q - x - 10 + (44 - e0 + 30)) 7 w (by omega) (by omega) (by decide) (by decide)).mono ?_
      rintro e w1 ⟨rfl, rfl⟩
      have m0 : 0 ≤ (q - x - 10 + (44 - e0 + 30)) % 7 := by omega
      have m1 : (q - x - 10 + (44 - e0 + 30)) % 7 ≤ 6 := by omega
      generalize (q - x - 10 + (44 - e0 + 30)) % 7 = md at *
      go_wp2_with fail
      refine (rNumber_in y 3 1 w HR31.out).mono ?_
      rintro e w2 ⟨rfl, hb⟩
      rw [Hn31.out]
      have HB := Held.mk hb
      clear hb
      go_wp2
      go_ret2
      exact ⟨by rw [Hf.out]; rfl, HB.out⟩
    · have hd : decide (44 - e0 < 21) = false := decide_eq_false hl
      have Hf : Held (rEI y = n31 + ((44 - e0) + 7 - (q - x - 10 + (44 - e0)) % 7) - 1) := ⟨by rw [← Hn31.out]; exact Hres.out e0 (44 - e0) (by rw [if_neg (by omega)]) (by rw [if_neg hl])⟩
      go_wp2_with fail
      refine (rest_any (q - x - 10 + (44 - e0)) 7 w (by omega) (by omega) (by decide) (by decide)).mono ?_
      rintro e w1 ⟨rfl, rfl⟩
      have m0 : 0 ≤ (q - x - 10 + (44 - e0)) % 7 := by omega
      have m1 : (q - x - 10 + (44 - e0)) % 7 ≤ 6 := by omega
      generalize (q - x - 10 + (44 - e0)) % 7 = md at *
      go_wp2_with fail
      refine (rNumber_in y 3 1 w HR31.out).mono ?_
      rintro e w2 ⟨rfl, hb⟩
      rw [Hn31.out]
      have HB := Held.mk hb
      clear hb
      go_wp2
      go_ret2
      exact ⟨by rw [Hf.out]; rfl, HB.out⟩
end Cal
end Go.Proofs.YtlnkdgjlbpldpaaDoor
