/- Calendar: Easter, Months; the law's day, first, month, hasBusiness. -/
import Derived.Test.YtlnkdgjlbpldpaaDoorAdj
namespace Go.Proofs.YtlnkdgjlbpldpaaDoor
set_option linter.unusedVariables false
set_option linter.unusedSimpArgs false
namespace Cal
open Go.RowKit Mem Go.Proofs.YtlnkdgjlbpldpaaDoorW.PrintLast Go.Maps

def eH (y : Int) : Int := (19 * (y % 19) + y / 100 - y / 100 / 4 - (8 * (y / 100) + 13) / 25 + 15) % 30
def eL (y : Int) : Int := (32 + 2 * (y / 100 % 4) + 2 * (y % 100 / 4) - eH y - y % 100 % 4) % 7
def eX (y : Int) : Int := eH y + eL y - 7 * ((y % 19 + 11 * eH y + 19 * eL y) / 433)
def eM (y : Int) : Int := (eX y + 90) / 25
def eD (y : Int) : Int := (eX y + 33 * eM y + 19) % 32
def easterI (y : Int) : Int := numI y (eM y) (eD y)
theorem eX_b (a h l : Int) (ha0 : 0 ≤ a) (ha : a ≤ 18) (hh0 : 0 ≤ h) (hh : h ≤ 29) (hl0 : 0 ≤ l) (hl : l ≤ 6) : -7 ≤ h + l - 7 * ((a + 11 * h + 19 * l) / 433) ∧ h + l - 7 * ((a + 11 * h + 19 * l) / 433) ≤ 35 := by omega
theorem eMD_b (x M : Int) (h0 : -7 ≤ x) (h1 : x ≤ 35) (hM : (x + 90) / 25 = M) : 3 ≤ M ∧ M ≤ 5 ∧ 1 ≤ (x + 33 * M + 19) % 32 ∧ (x + 33 * M + 19) % 32 ≤ 31 := by
  have : M = 3 ∨ M = 4 ∨ M = 5 := by omega
  rcases this with rfl | rfl | rfl <;> omega
set_option maxHeartbeats 4000000 in
set_option maxRecDepth 100000 in
theorem easter_any (y : Int) (w : World) (h1 : 1 ≤ y) (h2 : y ≤ 9999) : Calls Tryd.prog 43 #[.int .i64 y] w fun e w' => e = .returned (.int .i64 (easterI y)) ∧ Below w.heap.size w w' := by
  obtain ⟨a, ha⟩ : ∃ a, y % 19 = a := ⟨_, rfl⟩
  obtain ⟨b, hb⟩ : ∃ b, y / 100 = b := ⟨_, rfl⟩
  obtain ⟨c, hc⟩ : ∃ c, y % 100 = c := ⟨_, rfl⟩
  have a0 : 0 ≤ a := by omega
  have a1 : a ≤ 18 := by omega
  have b0 : 0 ≤ b := by omega
  have b1 : b ≤ 99 := by omega
  have c0 : 0 ≤ c := by omega
  have c1 : c ≤ 99 := by omega
  obtain ⟨d, hd⟩ : ∃ d, b / 4 = d := ⟨_, rfl⟩
  obtain ⟨e, he⟩ : ∃ e, b % 4 = e := ⟨_, rfl⟩
  obtain ⟨g, hg⟩ : ∃ g, (8 * b + 13) / 25 = g := ⟨_, rfl⟩
  have d0 : 0 ≤ d := by omega
  have d1 : d ≤ 24 := by omega
  have e0 : 0 ≤ e := by omega
  have e1 : e ≤ 3 := by omega
  have g0 : 0 ≤ g := by omega
  have g1 : g ≤ 33 := by omega
  have hp : 0 ≤ 19 * a + b - d - g + 15 := by omega
  obtain ⟨h, hh⟩ : ∃ h, (19 * a + b - d - g + 15) % 30 = h := ⟨_, rfl⟩
  have hh0 : 0 ≤ h := by omega
  have hh1 : h ≤ 29 := by omega
  obtain ⟨i, hi⟩ : ∃ i, c / 4 = i := ⟨_, rfl⟩
  obtain ⟨k, hk⟩ : ∃ k, c % 4 = k := ⟨_, rfl⟩
  have i0 : 0 ≤ i := by omega
  have i1 : i ≤ 24 := by omega
  have k0 : 0 ≤ k := by omega
  have k1 : k ≤ 3 := by omega
  obtain ⟨l, hl⟩ : ∃ l, (32 + 2 * e + 2 * i - h - k) % 7 = l := ⟨_, rfl⟩
  have l0 : 0 ≤ l := by omega
  have l1 : l ≤ 6 := by omega
  obtain ⟨m, hm⟩ : ∃ m, (a + 11 * h + 19 * l) / 433 = m := ⟨_, rfl⟩
  have m0 : 0 ≤ m := by omega
  have m1 : m ≤ 1 := by omega
  have hx := eX_b a h l a0 a1 hh0 hh1 l0 l1
  rw [hm] at hx
  obtain ⟨x0, x1⟩ := hx
  obtain ⟨M, hM⟩ : ∃ M, (h + l - 7 * m + 90) / 25 = M := ⟨_, rfl⟩
  obtain ⟨M0, M1, D0, D1⟩ := eMD_b (h + l - 7 * m) M x0 x1 hM
  obtain ⟨D, hD⟩ : ∃ D, (h + l - 7 * m + 33 * M + 19) % 32 = D := ⟨_, rfl⟩
  rw [hD] at D0 D1
  have hxe : eX y = h + l - 7 * m := by
    unfold eX eL eH
    rw [ha, hb, hc, hd, he, hg, hh, hi, hk, hl, hm]
  have hres : easterI y = numI y M D := by
    unfold easterI eD eM
    rw [hxe, hM, hD]
  have Hres := Held.mk hres
  clear hres hxe
  have t1 : y.tmod 19 = a := by rw [Int.tmod_eq_emod_of_nonneg (by omega)]; exact ha
  have t2 : y.tdiv 100 = b := by rw [Int.tdiv_eq_ediv_of_nonneg (by omega)]; exact hb
  have t3 : y.tmod 100 = c := by rw [Int.tmod_eq_emod_of_nonneg (by omega)]; exact hc
  clear ha hb hc
  have t4 : b.tdiv 4 = d := by rw [Int.tdiv_eq_ediv_of_nonneg (by omega)]; exact hd
  have t5 : b.tmod 4 = e := by rw [Int.tmod_eq_emod_of_nonneg (by omega)]; exact he
  have t6 : (8 * b + 13).tdiv 25 = g := by rw [Int.tdiv_eq_ediv_of_nonneg (by omega)]; exact hg
  clear hd he hg
  have t7 : (19 * a + b - d - g + 15).tmod 30 = h := by rw [Int.tmod_eq_emod_of_nonneg hp]; exact hh
  clear hh hp
  have t8 : c.tdiv 4 = i := by rw [Int.tdiv_eq_ediv_of_nonneg (by omega)]; exact hi
  have t9 : c.tmod 4 = k := by rw [Int.tmod_eq_emod_of_nonneg (by omega)]; exact hk
  clear hi hk
  have t10 : (32 + 2 * e + 2 * i - h - k).tmod 7 = l := by rw [Int.tmod_eq_emod_of_nonneg (by omega)]; exact hl
  clear hl
  have t11 : (a + 11 * h + 19 * l).tdiv 433 = m := by rw [Int.tdiv_eq_ediv_of_nonneg (by omega)]; exact hm
  clear hm
  have t12 : (h + l - 7 * m + 90).tdiv 25 = M := by rw [Int.tdiv_eq_ediv_of_nonneg (by omega)]; exact hM
  clear hM
  have t13 : (h + l - 7 * m + 33 * M + 19).tmod 32 = D := by rw [Int.tmod_eq_emod_of_nonneg (by omega)]; exact hD
  clear hD
  go_enter Tryd.func43, Tryd.ntmps43
  go_wp2_with fail
  refine (number_any y M D w h1 h2 (by omega) (by omega) D0 D1).mono ?_
  rintro e w1 ⟨rfl, hb1⟩
  have HB1 := Held.mk hb1
  clear hb1
  go_wp2
  go_ret
  exact ⟨by rw [Hres.out]; rfl, HB1.out⟩
set_option maxHeartbeats 4000000 in
set_option maxRecDepth 100000 in
theorem Easter_in (y : Int) (w : World) (h1 : 1 ≤ y) (h2 : y ≤ 9999) : Calls Tryd.prog 16 #[.int .i64 y] w fun e w' => e = .returned (.tuple #[.int .i64 (easterI y), .nilIface]) ∧ Below w.heap.size w w' := by
  go_enter Tryd.func16, Tryd.ntmps16
  go_wp2_with fail
  refine (easter_any y w h1 h2).mono ?_
  rintro e w1 ⟨rfl, hb1⟩
  have HB1 := Held.mk hb1
  clear hb1
  go_wp2
  go_ret2
  exact ⟨rfl, HB1.out⟩
set_option maxHeartbeats 4000000 in
set_option maxRecDepth 100000 in
theorem Easter_out (y : Int) (w : World) (h : ¬ (1 ≤ y ∧ y ≤ 9999)) : Calls Tryd.prog 16 #[.int .i64 y] w fun e w' => e = .returned (.tuple #[.int .i64 0, errDateV]) ∧ w = w' := by
  have hc : decide (y < 1) = true ∨ decide (y < 1) = false ∧ decide (9999 < y) = true := by simp only [decide_eq_true_eq, decide_eq_false_iff_not]; omega
  clear h
  rcases hc with h | ⟨h, h2⟩ <;>
  · go_enter Tryd.func16, Tryd.ntmps16
    go_wp2
    go_ret2
    exact ⟨rfl, rfl⟩
/-! The law's own words. -/
set_option maxHeartbeats 4000000 in
set_option maxRecDepth 100000 in
theorem day_in (y m d : Int) (w : World) (h : Right y m d) : Calls Tryd.prog 49 #[.int .i64 y, .int .i64 m, .int .i64 d] w fun e w' => e = .returned (.int .i64 (numI y m d)) ∧ Below w.heap.size w w' := by
  go_enter Tryd.func49, Tryd.ntmps49
  go_wp2_with fail
  refine (number_in y m d w h).mono ?_
  rintro e w1 ⟨rfl, hb1⟩
  have HB1 := Held.mk hb1
  clear hb1
  go_wp2
  go_ret
  exact ⟨rfl, HB1.out⟩
def I64 (k : Int) : Prop := -9223372036854775808 ≤ k ∧ k ≤ 9223372036854775807
end Cal
end Go.Proofs.YtlnkdgjlbpldpaaDoor
