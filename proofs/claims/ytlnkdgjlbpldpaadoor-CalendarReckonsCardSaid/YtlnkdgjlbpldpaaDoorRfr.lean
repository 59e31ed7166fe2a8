/- Months and Fraction: the document's, and the program's Fraction. -/
import Derived.Test.YtlnkdgjlbpldpaaDoorRck
namespace Go.Proofs.YtlnkdgjlbpldpaaDoor
set_option linter.unusedVariables false
set_option linter.unusedSimpArgs false
namespace Cal
open Go.RowKit Mem Go.Proofs.YtlnkdgjlbpldpaaDoorW.PrintLast

def rMonthsRes (t d : Int) (w : World) (e : Ending) (w' : World) : Prop :=
  Below w.heap.size w w' ∧ if t < 12 ∨ 120000 ≤ t then e = .returned (.tuple #[.int .i64 0, .int .i64 8]) else e = .returned (.tuple #[.int .i64 (monthsI t d), .int .i64 0])
set_option maxHeartbeats 8000000 in
set_option maxRecDepth 100000 in
theorem rMonths_any (n k y m d : Int) (w : World) (hR : Right y m d) (hN : numI y m d = n) (hk1 : -119988 ≤ k) (hk2 : k ≤ 119988) :
    Calls Tryd.prog 19 #[.int .i64 n, .int .i64 k] w (rMonthsRes (12 * y + m - 1 + k) d w) := by
  have HR := Held.mk hR
  have HN := Held.mk hN
  have hn := hR.last
  rw [hN] at hn
  obtain ⟨hn1, hn2⟩ := hn
  have hy1 := hR.y1
  have hy2 := hR.y2
  have hm1 := hR.m1
  have hm2 := hR.m2
  have hd1 := hR.d1
  have hd31 : d ≤ 31 := Int.le_trans hR.d2 (len_hi y m hm1 hm2)
  have c1 : decide (k < -119988) = false := decide_eq_false (by omega)
  have c2 : decide (119988 < k) = false := decide_eq_false (by omega)
  clear hR hN
  go_enter Tryd.func19, Tryd.ntmps19
  go_wp2_with fail
  refine (rOf_in n w hn1 hn2).mono ?_
  rintro e w2 ⟨y', m', d', rfl, hR', hN', hb2⟩
  obtain ⟨rfl, rfl, rfl⟩ := hR'.inj HR.out (by rw [hN', HN.out])
  have HB2 := Held.mk hb2
  have hs2 := hb2.size
  clear hb2 hR' hN'
  unfold Dt
  have hN0 := Blk.new w2 23 #[.int .i64 y', .int .i64 m', .int .i64 d']
  have hk0 : (w2.alloc (.cells #[.int .i64 y', .int .i64 m', .int .i64 d'] 23)).cell? ⟨w2.heap.size, 0, none⟩ = some (.int .i64 y') := hN0.cell 0
  have hk1' : (w2.alloc (.cells #[.int .i64 y', .int .i64 m', .int .i64 d'] 23)).cell? ⟨w2.heap.size, 1, none⟩ = some (.int .i64 m') := hN0.cell 1
  obtain ⟨t, ht⟩ : ∃ t, 12 * y' + m' - 1 + k = t := ⟨_, rfl⟩
  have ht1 : -200000 ≤ t := by omega
  have ht2 : t ≤ 300000 := by omega
  have Ht := Held.mk ht
  obtain ⟨Y, hY⟩ : ∃ Y, t / 12 = Y := ⟨_, rfl⟩
  obtain ⟨M, hM⟩ : ∃ M, t % 12 = M := ⟨_, rfl⟩
  have HY := Held.mk hY
  have HM := Held.mk hM
  have hM1 : 0 ≤ M := by omega
  have hM2 : M ≤ 11 := by omega
  have hYb : -20000 ≤ Y := by omega
  have hYb2 : Y ≤ 30000 := by omega
  have hcase : (t < 12 ∨ 120000 ≤ t) ∧ (decide (Y < 1) = true ∨ decide (Y < 1) = false ∧ decide (9999 < Y) = true) ∨ ¬ (t < 12 ∨ 120000 ≤ t) ∧ decide (Y < 1) = false ∧ decide (9999 < Y) = false ∧ 1 ≤ Y ∧ Y ≤ 9999 := by
    simp only [decide_eq_true_eq, decide_eq_false_iff_not]
    omega
  go_wp2_with fail
  refine (over_any t 12 _ (by omega) (by omega) (by decide)).mono ?_
  rintro e w3 ⟨rfl, rfl⟩
  rw [hY]
  clear hY
  go_wp2_with fail
  refine (rest_any t 12 _ (by omega) (by omega) (by decide) (by decide)).mono ?_
  rintro e w3 ⟨rfl, rfl⟩
  rw [hM]
  clear hM hk0 hk1' hN0
  have hN4 := Blk.new w2 23 #[.int .i64 Y, .int .i64 (M + 1), .int .i64 d']
  have HB4 : Held (Below w.heap.size w (w2.alloc (.cells #[.int .i64 Y, .int .i64 (M + 1), .int .i64 d'] 23))) := ⟨HB2.out.alloc hs2 _⟩
  have k0' : (w2.alloc (.cells #[.int .i64 Y, .int .i64 (M + 1), .int .i64 d'] 23)).cell? ⟨w2.heap.size, 0, none⟩ = some (.int .i64 Y) := hN4.cell 0
  rcases hcase with ⟨hA, hc | ⟨hc, hc2⟩⟩ | ⟨hA, hc, hc2, hY1, hY2⟩
  · have HA := Held.mk hA
    clear hA
    go_wp2
    go_ret2
    exact ⟨HB4.out, by rw [Ht.out, if_pos HA.out]; rfl⟩
  · have HA := Held.mk hA
    clear hA
    go_wp2
    go_ret2
    exact ⟨HB4.out, by rw [Ht.out, if_pos HA.out]; rfl⟩
  · have HA := Held.mk hA
    clear hA
    obtain ⟨ln, hln⟩ : ∃ ln, lengthI Y (M + 1) = ln := ⟨_, rfl⟩
    have hl1 : 28 ≤ ln := by rw [← hln]; exact len_lo Y (M + 1) (by omega) (by omega)
    have hl2 : ln ≤ 31 := by rw [← hln]; exact len_hi Y (M + 1) (by omega) (by omega)
    have Hln := Held.mk hln
    clear hln
    go_wp2_with fail
    generalize w2.alloc (.cells #[.int .i64 Y, .int .i64 (M + 1), .int .i64 d'] 23) = w4 at *
    have HN4 := Held.mk hN4
    have hgs := HN4.out.lt
    have k0 := hN4.cell 0
    have k1 := hN4.cell 1
    have k2 := hN4.cell 2
    simp at k0 k1 k2
    clear hN4 k0'
    generalize w2.heap.size = g at *
    refine start_ (n := 8) (S := fun w' => w'.cell? ⟨g, 0, none⟩ = some (.int .i64 Y) ∧ w'.cell? ⟨g, 1, none⟩ = some (.int .i64 (M + 1)) ∧ w'.cell? ⟨g, 2, none⟩ = some (.int .i64 d')) (ds := []) #[false, false, false, false, false, false, false, false] (by kernel_rfl) rfl rfl ⟨k0, k1, k2⟩ (fun hHeld => ?_)
    refine pure_ (i := 0) (N := some 48) (v := ?_) (a' := ?_) #[true, false, false, false, false, false, false, false] rfl rfl (by kernel_rfl) (fun _ _ _ h => h) (Or.inl ⟨by rfl, ?_⟩) ?_ ?_
    rotate_left
    · intro w'
      go_simp
      with_reducible rfl
    rotate_left
    · simp only [Act.put, List.setIfInBounds_toArray, List.set_cons_zero, List.set_cons_succ, i64_w, i32_w]
      rfl
    refine pure_ (i := 2) (N := some 50) (v := ?_) (a' := ?_) #[true, false, true, false, false, false, false, false] rfl rfl (by kernel_rfl) (fun _ _ _ h => h) (Or.inl ⟨by rfl, ?_⟩) ?_ ?_
    rotate_left
    · intro w'
      go_simp
      with_reducible rfl
    rotate_left
    · simp only [Act.put, List.setIfInBounds_toArray, List.set_cons_zero, List.set_cons_succ, i64_w, i32_w]
      rfl
    refine pure_ (i := 4) (N := some 52) (v := ?_) (a' := ?_) #[true, false, true, false, true, false, false, false] rfl rfl (by kernel_rfl) (fun _ _ _ h => h) (Or.inl ⟨by rfl, ?_⟩) ?_ ?_
    rotate_left
    · intro w'
      go_simp
      with_reducible rfl
    rotate_left
    · simp only [Act.put, List.setIfInBounds_toArray, List.set_cons_zero, List.set_cons_succ, i64_w, i32_w]
      rfl
    refine take_ (i := 1) (N := some 49) (v := ?_) (a' := ?_) #[true, true, true, false, true, false, false, false] rfl rfl (by kernel_rfl) (fun _ _ _ h => h) (Or.inl ⟨by rfl, ?_⟩) hHeld ?_ ?_
    rotate_left
    · rintro w' ⟨s0, s1, s2⟩
      go_simp
      with_reducible rfl
    rotate_left
    · simp only [Act.put, List.setIfInBounds_toArray, List.set_cons_zero, List.set_cons_succ, i64_w, i32_w]
      rfl
    refine take_ (i := 3) (N := some 51) (v := ?_) (a' := ?_) #[true, true, true, true, true, false, false, false] rfl rfl (by kernel_rfl) (fun _ _ _ h => h) (Or.inl ⟨by rfl, ?_⟩) hHeld ?_ ?_
    rotate_left
    · rintro w' ⟨s0, s1, s2⟩
      go_simp
      with_reducible rfl
    rotate_left
    · simp only [Act.put, List.setIfInBounds_toArray, List.set_cons_zero, List.set_cons_succ, i64_w, i32_w]
      rfl
    refine take_ (i := 5) (N := some 53) (v := ?_) (a' := ?_) #[true, true, true, true, true, true, false, false] rfl rfl (by kernel_rfl) (fun _ _ _ h => h) (Or.inl ⟨by rfl, ?_⟩) hHeld ?_ ?_
    rotate_left
    · rintro w' ⟨s0, s1, s2⟩
      go_simp
      with_reducible rfl
    rotate_left
    · simp only [Act.put, List.setIfInBounds_toArray, List.set_cons_zero, List.set_cons_succ, i64_w, i32_w]
      rfl
    refine one_ (i := 6) (N := some 54) #[true, true, true, true, true, true, true, false] rfl rfl (by kernel_rfl) (by decide) (fun K hK => ?_)
    refine goes_ Tryd.func36 (by kernel_rfl) rfl #[.int .i64 Y, .int .i64 (M + 1)] (by rfl) rfl rfl (by simp only [List.map_toArray, List.map_cons, List.map_nil]; rfl) ?_
    with_reducible refine (rMonth_any Y (M + 1) _ hY1 (by omega) (by omega) (by omega)).mono ?_
    rintro e w8 ⟨rfl, rfl⟩
    refine ⟨_, rfl, ?_⟩
    rw [Hln.out]
    refine hK.out _ _ ⟨k0, k1, k2⟩ (fun hHeld => ?_)
    clear hK K
    refine norm_ (a' := ?_) ?_ ?_
    rotate_left
    · show Act.put _ (some 54) _ = _
      simp only [Act.put, List.setIfInBounds_toArray, List.set_cons_zero, List.set_cons_succ, i64_w, i32_w]
      rfl
    refine pure_ (i := 7) (N := some 55) (v := ?_) (a' := ?_) #[true, true, true, true, true, true, true, true] rfl rfl (by kernel_rfl) (fun _ _ _ h => h) (Or.inl ⟨by rfl, ?_⟩) ?_ ?_
    rotate_left
    · intro w'
      go_simp
      with_reducible rfl
    rotate_left
    · simp only [Act.put, List.setIfInBounds_toArray, List.set_cons_zero, List.set_cons_succ, i64_w, i32_w]
      rfl
    refine done_ (by kernel_rfl) ?_
    clear hHeld
    have f2 := HN4.out.frozen 2
    have hfin : ∀ mn, minI d' ln = mn → monthsI t d' = numI Y (M + 1) mn := fun mn h => by unfold monthsI; rw [HY.out, HM.out, Hln.out, h]
    have Hfin := Held.mk hfin
    clear hfin
    by_cases hle : ln < d'
    · have hb0 : decide (ln < d') = true := decide_eq_true hle
      have HF : Held (monthsI t d' = numI Y (M + 1) ln) := ⟨Hfin.out ln (by unfold minI; rw [if_neg (by omega)])⟩
      have HR9 : Held (Right Y (M + 1) ln) := ⟨⟨hY1, hY2, by omega, by omega, by omega, by rw [Hln.out]; exact Int.le_refl _⟩⟩
      go_wp2_with fail
      refine (rMonth_any Y (M + 1) _ hY1 (by omega) (by omega) (by omega)).mono ?_
      rintro e w8 ⟨rfl, rfl⟩
      rw [Hln.out]
      have HBs : Held (Below w.heap.size w (w4.setCell ⟨g, 2, none⟩ (.int .i64 ln))) := ⟨HB4.out.setCell hs2 _⟩
      go_wp2_with fail
      refine (rNumber_in Y (M + 1) ln _ HR9.out).mono ?_
      rintro e w9 ⟨rfl, hb⟩
      have HB9 : Held (Below w.heap.size w w9) := ⟨HBs.out.drew.trans (hb.mono HBs.out.size)⟩
      clear hb
      go_wp2
      go_ret2
      exact ⟨HB9.out, by rw [Ht.out, if_neg HA.out, HF.out]; rfl⟩
    · have hb0 : decide (ln < d') = false := decide_eq_false hle
      have HF : Held (monthsI t d' = numI Y (M + 1) d') := ⟨Hfin.out d' (by unfold minI; rw [if_pos (by omega)])⟩
      have HR9 : Held (Right Y (M + 1) d') := ⟨⟨hY1, hY2, by omega, by omega, by omega, by rw [Hln.out]; omega⟩⟩
      go_wp2_with fail
      refine (rNumber_in Y (M + 1) d' _ HR9.out).mono ?_
      rintro e w9 ⟨rfl, hb⟩
      have HB9 : Held (Below w.heap.size w w9) := ⟨(below_drewN HB4.out _).trans (hb.mono HB4.out.size)⟩
      clear hb
      go_wp2
      go_ret2
      exact ⟨HB9.out, by rw [Ht.out, if_neg HA.out, HF.out]; rfl⟩
set_option maxHeartbeats 4000000 in
set_option maxRecDepth 100000 in
theorem rMonths_out (n k : Int) (w : World) (h : ¬ (isD n ∧ -119988 ≤ k ∧ k ≤ 119988)) :
    Calls Tryd.prog 19 #[.int .i64 n, .int .i64 k] w fun e w' => e = .returned (.tuple #[.int .i64 0, .int .i64 8]) ∧ Below w.heap.size w w' := by
  by_cases hn : 1 ≤ n ∧ n ≤ 3652059
  · have hc : decide (119988 < k) = true ∨ decide (119988 < k) = false ∧ decide (k < -119988) = true := by
      simp only [decide_eq_true_eq, decide_eq_false_iff_not]
      unfold isD at h
      omega
    obtain ⟨hn1, hn2⟩ := hn
    clear h
    rcases hc with h | ⟨h, h2⟩ <;>
    · go_enter Tryd.func19, Tryd.ntmps19
      go_wp2_with fail
      refine (rOf_in n w hn1 hn2).mono ?_
      rintro e w2 ⟨y, m, d, rfl, hR, hN, hb2⟩
      have HB2 := Held.mk hb2
      have hs2 := hb2.size
      clear hb2 hR hN
      unfold Dt
      go_wp2
      go_ret2
      exact ⟨rfl, HB2.out.alloc hs2 _⟩
  · have Hn := Held.mk hn
    clear h hn
    go_enter Tryd.func19, Tryd.ntmps19
    go_wp2_with fail
    refine (rOf_out n w Hn.out).mono ?_
    rintro e w2 ⟨rfl, hb2⟩
    have HB2 := Held.mk hb2
    have hs2 := hb2.size
    clear hb2
    unfold Dt
    go_wp2
    go_ret2
    exact ⟨rfl, HB2.out.alloc hs2 _⟩
end Cal
end Go.Proofs.YtlnkdgjlbpldpaaDoor
