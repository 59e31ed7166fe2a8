/- Calendar: Easter, Months; the law's day, first, month, hasBusiness. -/
import Derived.Test.YtlnkdgjlbpldpaaAdj
namespace Go.Proofs.Ytlnkdgjlbpldpaa
set_option linter.unusedVariables false
set_option linter.unusedSimpArgs false
namespace Cal
open Go.RowKit Mem Go.Proofs.YtlnkdgjlbpldpaaW.PrintLast Go.Maps

def eH (y : Int) : Int := (19 * (y % 19) + y / 100 - y / 100 / 4 - (8 * (y / 100) + 13) / 25 + 15) % 30
def eL (y : Int) : Int := (32 + 2 * (y / 100 % 4) + 2 * (y % 100 / 4) - eH y - y % 100 % 4) % 7
def eX (y : Int) : Int := eH y + eL y - 7 * ((y % 19 + 11 * eH y + 19 * eL y) / 433)
def eM (y : Int) : Int := (eX y + 90) / 25
def eD (y : Int) : Int := (eX y + 33 * eM y + 19) % 32
def easterI (y : Int) : Int := numI y (eM y) (eD y)
theorem eX_b (a h l : Int) (ha0 : 0 ≤ a) (ha : a ≤ 18) (hh0 : 0 ≤ h) (hh : h ≤ 29) (hl0 : 0 ≤ l) (hl : l ≤ 6) : -7 ≤ h + l - 7 * ((a + 11 * h + 19 * l) / 433) ∧ h + l - 7 * ((a + 11 * h + 19 * l) / 433) ≤ 35 := by omega
theorem eMD_b (x M : Int) (h0 : -7 ≤ x) (h1 : x ≤ 35) (hM : (x + 90) / 25 = M) : 3 ≤ M ∧ M ≤ 5 ∧ 1 ≤ (x + 33 * M + 19) % 32 ∧ (x + 33 * M + 19) % 32 ≤ 31 := by
  have : M = 3 ∨ M = 4 ∨ M = 5 := by omega
  rcases this with rfl | rfl | rfl <;> omega
set_option maxHeartbeats 4000000 in
set_option maxRecDepth 100000 in
theorem easter_any (y : Int) (w : World) (h1 : 1 ≤ y) (h2 : y ≤ 9999) : Calls Try.prog 38 #[.int .i64 y] w fun e w' => e = .returned (.int .i64 (easterI y)) ∧ Below w.heap.size w w' := by
  obtain ⟨a, ha⟩ : ∃ a, y % 19 = a := ⟨_, rfl⟩
  obtain ⟨b, hb⟩ : ∃ b, y / 100 = b := ⟨_, rfl⟩
  obtain ⟨c, hc⟩ : ∃ c, y % 100 = c := ⟨_, rfl⟩
  have a0 : 0 ≤ a := by omega
  have a1 : a ≤ 18 := by omega
  have b0 : 0 ≤ b := by omega
  have b1 : b ≤ 99 := by omega
  have c0 : 0 ≤ c := by omega
  have c1 : c ≤ 99 := by omega
  obtain ⟨d, hd⟩ : ∃ d, b / 4 = d := ⟨_, rfl⟩
  obtain ⟨e, he⟩ : ∃ e, b % 4 = e := ⟨_, rfl⟩
  obtain ⟨g, hg⟩ : ∃ g, (8 * b + 13) / 25 = g := ⟨_, rfl⟩
  have d0 : 0 ≤ d := by omega
  have d1 : d ≤ 24 := by omega
  have e0 : 0 ≤ e := by omega
  have e1 : e ≤ 3 := by omega
  have g0 : 0 ≤ g := by omega
  have g1 : g ≤ 33 := by omega
  have hp : 0 ≤ 19 * a + b - d - g + 15 := by omega
  obtain ⟨h, hh⟩ : ∃ h, (19 * a + b - d - g + 15) % 30 = h := ⟨_, rfl⟩
  have hh0 : 0 ≤ h := by omega
  have hh1 : h ≤ 29 := by omega
  obtain ⟨i, hi⟩ : ∃ i, c / 4 = i := ⟨_, rfl⟩
  obtain ⟨k, hk⟩ : ∃ k, c % 4 = k := ⟨_, rfl⟩
  have i0 : 0 ≤ i := by omega
  have i1 : i ≤ 24 := by omega
  have k0 : 0 ≤ k := by omega
  have k1 : k ≤ 3 := by omega
  obtain ⟨l, hl⟩ : ∃ l, (32 + 2 * e + 2 * i - h - k) % 7 = l := ⟨_, rfl⟩
  have l0 : 0 ≤ l := by omega
  have l1 : l ≤ 6 := by omega
  obtain ⟨m, hm⟩ : ∃ m, (a + 11 * h + 19 * l) / 433 = m := ⟨_, rfl⟩
  have m0 : 0 ≤ m := by omega
  have m1 : m ≤ 1 := by omega
  have hx := eX_b a h l a0 a1 hh0 hh1 l0 l1
  rw [hm] at hx
  obtain ⟨x0, x1⟩ := hx
  obtain ⟨M, hM⟩ : ∃ M, (h + l - 7 * m + 90) / 25 = M := ⟨_, rfl⟩
  obtain ⟨M0, M1, D0, D1⟩ := eMD_b (h + l - 7 * m) M x0 x1 hM
  obtain ⟨D, hD⟩ : ∃ D, (h + l - 7 * m + 33 * M + 19) % 32 = D := ⟨_, rfl⟩
  rw [hD] at D0 D1
  have hxe : eX y = h + l - 7 * m := by
    unfold eX eL eH
    rw [ha, hb, hc, hd, he, hg, hh, hi, hk, hl, hm]
  have hres : easterI y = numI y M D := by
    unfold easterI eD eM
    rw [hxe, hM, hD]
  have Hres := Held.mk hres
  clear hres hxe
  have t1 : y.tmod 19 = a := by rw [Int.tmod_eq_emod_of_nonneg (by omega)]; exact ha
  have t2 : y.tdiv 100 = b := by rw [Int.tdiv_eq_ediv_of_nonneg (by omega)]; exact hb
  have t3 : y.tmod 100 = c := by rw [Int.tmod_eq_emod_of_nonneg (by omega)]; exact hc
  clear ha hb hc
  have t4 : b.tdiv 4 = d := by rw [Int.tdiv_eq_ediv_of_nonneg (by omega)]; exact hd
  have t5 : b.tmod 4 = e := by rw [Int.tmod_eq_emod_of_nonneg (by omega)]; exact he
  have t6 : (8 * b + 13).tdiv 25 = g := by rw [Int.tdiv_eq_ediv_of_nonneg (by omega)]; exact hg
  clear hd he hg
  have t7 : (19 * a + b - d - g + 15).tmod 30 = h := by rw [Int.tmod_eq_emod_of_nonneg hp]; exact hh
  clear hh hp
  have t8 : c.tdiv 4 = i := by rw [Int.tdiv_eq_ediv_of_nonneg (by omega)]; exact hi
  have t9 : c.tmod 4 = k := by rw [Int.tmod_eq_emod_of_nonneg (by omega)]; exact hk
  clear hi hk
  have t10 : (32 + 2 * e + 2 * i - h - k).tmod 7 = l := by rw [Int.tmod_eq_emod_of_nonneg (by omega)]; exact hl
  clear hl
  have t11 : (a + 11 * h + 19 * l).tdiv 433 = m := by rw [Int.tdiv_eq_ediv_of_nonneg (by omega)]; exact hm
  clear hm
  have t12 : (h + l - 7 * m + 90).tdiv 25 = M := by rw [Int.tdiv_eq_ediv_of_nonneg (by omega)]; exact hM
  clear hM
  have t13 : (h + l - 7 * m + 33 * M + 19).tmod 32 = D := by rw [Int.tmod_eq_emod_of_nonneg (by omega)]; exact hD
  clear hD
  go_enter Try.func38, Try.ntmps38
  go_wp2_with fail
  refine (number_any y M D w h1 h2 (by omega) (by omega) D0 D1).mono ?_
  rintro e w1 ⟨rfl, hb1⟩
  have HB1 := Held.mk hb1
  clear hb1
  go_wp2
  go_ret
  exact ⟨by rw [Hres.out]; rfl, HB1.out⟩
set_option maxHeartbeats 4000000 in
set_option maxRecDepth 100000 in
theorem Easter_in (y : Int) (w : World) (h1 : 1 ≤ y) (h2 : y ≤ 9999) : Calls Try.prog 27 #[.int .i64 y] w fun e w' => e = .returned (.tuple #[.int .i64 (easterI y), .nilIface]) ∧ Below w.heap.size w w' := by
  go_enter Try.func27, Try.ntmps27
  go_wp2_with fail
  refine (easter_any y w h1 h2).mono ?_
  rintro e w1 ⟨rfl, hb1⟩
  have HB1 := Held.mk hb1
  clear hb1
  go_wp2
  go_ret2
  exact ⟨rfl, HB1.out⟩
set_option maxHeartbeats 4000000 in
set_option maxRecDepth 100000 in
theorem Easter_out (y : Int) (w : World) (h : ¬ (1 ≤ y ∧ y ≤ 9999)) : Calls Try.prog 27 #[.int .i64 y] w fun e w' => e = .returned (.tuple #[.int .i64 0, errDateV]) ∧ w = w' := by
  have hc : decide (y < 1) = true ∨ decide (y < 1) = false ∧ decide (9999 < y) = true := by simp only [decide_eq_true_eq, decide_eq_false_iff_not]; omega
  clear h
  rcases hc with h | ⟨h, h2⟩ <;>
  · go_enter Try.func27, Try.ntmps27
    go_wp2
    go_ret2
    exact ⟨rfl, rfl⟩
/-! The law's own words. -/
set_option maxHeartbeats 4000000 in
set_option maxRecDepth 100000 in
theorem day_in (y m d : Int) (w : World) (h : Right y m d) : Calls Try.prog 26 #[.int .i64 y, .int .i64 m, .int .i64 d] w fun e w' => e = .returned (.int .i64 (numI y m d)) ∧ Below w.heap.size w w' := by
  go_enter Try.func26, Try.ntmps26
  go_wp2_with fail
  refine (number_in y m d w h).mono ?_
  rintro e w1 ⟨rfl, hb1⟩
  have HB1 := Held.mk hb1
  clear hb1
  go_wp2
  go_ret
  exact ⟨rfl, HB1.out⟩
def I64 (k : Int) : Prop := -9223372036854775808 ≤ k ∧ k ≤ 9223372036854775807
set_option maxHeartbeats 4000000 in
set_option maxRecDepth 100000 in
theorem pick_any (k n : Int) (w : World) (hk : I64 k) (hn : 1 ≤ n) (hn2 : n ≤ 1000000000000) : Calls Try.prog 33 #[.int .i64 k, .int .i64 n] w fun e w' => e = .returned (.int .i64 (k % n)) ∧ w = w' := by
  unfold I64 at hk
  go_enter Try.func33, Try.ntmps33
  by_cases h0 : 0 ≤ k
  · have e : k.tmod n = k % n := Int.tmod_eq_emod_of_nonneg h0
    have h1 := Int.emod_nonneg k (show n ≠ 0 by omega)
    have h2 := Int.emod_lt_of_pos k (show 0 < n by omega)
    generalize k % n = r at *
    go_wp2
    go_ret
    exact ⟨rfl, rfl⟩
  · by_cases hd : n ∣ k
    · have e : k.tmod n = 0 := by rw [Int.tmod_eq_emod, if_pos (.inr hd), Int.emod_eq_zero_of_dvd hd]; rfl
      have e2 : k % n = 0 := Int.emod_eq_zero_of_dvd hd
      have Hd := Held.mk hd
      clear hd
      rw [e2]
      clear e2
      go_wp2
      go_ret
      exact ⟨rfl, rfl⟩
    · have e : k.tmod n = k % n - n := by rw [Int.tmod_eq_emod, if_neg (fun h => h.elim h0 hd)]; omega
      have h1 := Int.emod_nonneg k (show n ≠ 0 by omega)
      have h2 := Int.emod_lt_of_pos k (show 0 < n by omega)
      have h3 : k % n ≠ 0 := fun h => hd (Int.dvd_of_emod_eq_zero h)
      clear hd
      generalize k % n = r at *
      have h4 : r - n < 0 := by omega
      go_wp2
      go_ret
      exact ⟨by first | rfl | (congr 2; omega), rfl⟩
set_option maxHeartbeats 4000000 in
set_option maxRecDepth 100000 in
theorem first_any (k n : Int) (w : World) (hk : I64 k) (hn : 1 ≤ n) (hn2 : n ≤ 1000000000000) : Calls Try.prog 15 #[.int .i64 k, .int .i64 n] w fun e w' => e = .returned (.int .i64 (1 + k % n)) ∧ w = w' := by
  have h1 := Int.emod_nonneg k (show n ≠ 0 by omega)
  have h2 := Int.emod_lt_of_pos k (show 0 < n by omega)
  go_enter Try.func15, Try.ntmps15
  go_wp2_with fail
  refine (pick_any k n w hk hn hn2).mono ?_
  rintro e w1 ⟨rfl, rfl⟩
  generalize hr : k % n = r at *
  have Hr := Held.mk hr
  clear hr
  go_wp2
  go_ret
  exact ⟨by first | rfl | (rw [Hr.out]; rfl), rfl⟩
set_option maxHeartbeats 4000000 in
set_option maxRecDepth 100000 in
theorem month_in (n m : Int) (w : World) (hn : isD n) (hm : isD m) : Calls Try.prog 21 #[.int .i64 n, .int .i64 m] w fun e w' => ∃ q : Bool, (q = true ↔ sameM n m) ∧ e = .returned (.bool q) ∧ Below w.heap.size w w' := by
  obtain ⟨hn1, hn2⟩ := hn
  obtain ⟨hm1, hm2⟩ := hm
  go_enter Try.func21, Try.ntmps21
  go_wp2_with fail
  refine (of_in n w hn1 hn2).mono ?_
  rintro e w2 ⟨y1, m1, d1, rfl, hR1, hN1, hb2⟩
  have HB2 := Held.mk hb2
  have hs2 := hb2.size
  have HR1 := Held.mk hR1
  have HN1 := Held.mk hN1
  clear hb2 hR1 hN1
  unfold Dt
  go_wp2_with fail
  have hN1 := Blk.new w2 23 #[.int .i64 y1, .int .i64 m1, .int .i64 d1]
  have HB3 : Held (Below w.heap.size w (w2.alloc (.cells #[.int .i64 y1, .int .i64 m1, .int .i64 d1] 23))) := ⟨HB2.out.alloc hs2 _⟩
  have hs3 : w2.heap.size < (w2.alloc (.cells #[.int .i64 y1, .int .i64 m1, .int .i64 d1] 23)).heap.size := by simp
  generalize w2.alloc (.cells #[.int .i64 y1, .int .i64 m1, .int .i64 d1] 23) = w3 at *
  refine (of_in m w3 hm1 hm2).mono ?_
  rintro e w4 ⟨y2, m2, d2, rfl, hR2, hN2, hb4⟩
  have hs4 := hb4.size
  have HB4 : Held (Below w.heap.size w w4) := ⟨HB3.out.trans (hb4.mono (by omega))⟩
  have Hiff := Held.mk (sameM_iff HR1.out HN1.out hR2 hN2)
  have hN1' := hN1.keep (Keep.of_below hb4 (fun _ => False)) (fun h => h)
  clear hb4 hR2 hN2 hN1
  unfold Dt
  have hN1 := hN1'.alloc (.cells #[.int .i64 y2, .int .i64 m2, .int .i64 d2] 23)
  have hN2 := Blk.new w4 23 #[.int .i64 y2, .int .i64 m2, .int .i64 d2]
  have HB5 : Held (Below w.heap.size w (w4.alloc (.cells #[.int .i64 y2, .int .i64 m2, .int .i64 d2] 23))) := ⟨HB4.out.alloc (by omega) _⟩
  have k0 : (w4.alloc (.cells #[.int .i64 y2, .int .i64 m2, .int .i64 d2] 23)).cell? ⟨w2.heap.size, 0, none⟩ = some (.int .i64 y1) := hN1.cell 0
  have k1 : (w4.alloc (.cells #[.int .i64 y2, .int .i64 m2, .int .i64 d2] 23)).cell? ⟨w2.heap.size, 1, none⟩ = some (.int .i64 m1) := hN1.cell 1
  have j0 : (w4.alloc (.cells #[.int .i64 y2, .int .i64 m2, .int .i64 d2] 23)).cell? ⟨w4.heap.size, 0, none⟩ = some (.int .i64 y2) := hN2.cell 0
  have j1 : (w4.alloc (.cells #[.int .i64 y2, .int .i64 m2, .int .i64 d2] 23)).cell? ⟨w4.heap.size, 1, none⟩ = some (.int .i64 m2) := hN2.cell 1
  clear hN1 hN2 hN1'
  by_cases hy : y1 = y2
  · have hby : (y1 == y2) = true := by simp [hy]
    by_cases hmo : m1 = m2
    · have hbm : (m1 == m2) = true := by simp [hmo]
      have Hq : Held (sameM n m) := ⟨Hiff.out.2 ⟨hy, hmo⟩⟩
      clear hy hmo Hiff
      go_wp2
      go_ret
      exact ⟨true, by simp [Hq.out], rfl, by first | exact HB5.out | exact below_drewN HB5.out _⟩
    · have hbm : (m1 == m2) = false := by simp [hmo]
      have Hq : Held (¬ sameM n m) := ⟨fun h => hmo (Hiff.out.1 h).2⟩
      clear hy hmo Hiff
      go_wp2
      go_ret
      exact ⟨false, by simp [Hq.out], rfl, by first | exact HB5.out | exact below_drewN HB5.out _⟩
  · have hby : (y1 == y2) = false := by simp [hy]
    have Hq : Held (¬ sameM n m) := ⟨fun h => hy (Hiff.out.1 h).1⟩
    clear hy Hiff
    go_wp2
    go_ret
    exact ⟨false, by simp [Hq.out], rfl, by first | exact HB5.out | exact below_drewN HB5.out _⟩
end Cal
end Go.Proofs.Ytlnkdgjlbpldpaa
