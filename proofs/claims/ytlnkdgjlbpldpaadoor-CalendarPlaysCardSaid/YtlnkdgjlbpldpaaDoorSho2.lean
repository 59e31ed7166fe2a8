/- Calendar: Months, Fraction, Target. -/
import Derived.Test.YtlnkdgjlbpldpaaDoorEas2
namespace Go.Proofs.YtlnkdgjlbpldpaaDoor
set_option linter.unusedVariables false
set_option linter.unusedSimpArgs false
namespace Cal
open Go.RowKit Mem Go.Proofs.YtlnkdgjlbpldpaaDoorW.PrintLast Go.Maps

def minI (a b : Int) : Int := if a ≤ b then a else b
def monthsI (t d : Int) : Int := numI (t / 12) (t % 12 + 1) (minI d (lengthI (t / 12) (t % 12 + 1)))
def monthsRes (t d : Int) (w : World) (e : Ending) (w' : World) : Prop :=
  Below w.heap.size w w' ∧ if t < 12 ∨ 120000 ≤ t then e = .returned (.tuple #[.int .i64 0, noDayV]) else e = .returned (.tuple #[.int .i64 (monthsI t d), .nilIface])
set_option maxHeartbeats 4000000 in
set_option maxRecDepth 100000 in
theorem months_any (n k y m d : Int) (w : World) (hR : Right y m d) (hN : numI y m d = n) (hk1 : -119988 ≤ k) (hk2 : k ≤ 119988) :
    Calls Tryd.prog 18 #[.int .i64 n, .int .i64 k] w (monthsRes (12 * y + m - 1 + k) d w) := by
  have HR := Held.mk hR
  have HN := Held.mk hN
  have hn := hR.last
  rw [hN] at hn
  obtain ⟨hn1, hn2⟩ := hn
  have hy1 := hR.y1
  have hy2 := hR.y2
  have hm1 := hR.m1
  have hm2 := hR.m2
  have hd1 := hR.d1
  have hd31 : d ≤ 31 := Int.le_trans hR.d2 (len_hi y m hm1 hm2)
  have c1 : decide (k < -119988) = false := decide_eq_false (by omega)
  have c2 : decide (119988 < k) = false := decide_eq_false (by omega)
  have HP : Held (∀ (Q : Ending → World → Prop) e w', Q e w' → Q e w') := ⟨fun _ _ _ h => h⟩
  clear hR hN
  go_enter Tryd.func18, Tryd.ntmps18
  go_wp2_with fail
  refine (isDay_any n w).mono ?_
  rintro e w1 ⟨rfl, rfl⟩
  rw [decide_eq_true (And.intro hn1 hn2)]
  go_wp2_with fail
  refine (date_any n w hn1 hn2).mono ?_
  rintro e w2 ⟨y', m', d', rfl, hR', hN', hb2⟩
  obtain ⟨rfl, rfl, rfl⟩ := hR'.inj HR.out (by rw [hN', HN.out])
  have HB2 := Held.mk hb2
  have hs2 := hb2.size
  clear hb2 hR' hN'
  unfold Dt
  have hN0 := Blk.new w2 23 #[.int .i64 y', .int .i64 m', .int .i64 d']
  have HB3 : Held (Below w.heap.size w (w2.alloc (.cells #[.int .i64 y', .int .i64 m', .int .i64 d'] 23))) := ⟨HB2.out.alloc hs2 _⟩
  have hk0 : (w2.alloc (.cells #[.int .i64 y', .int .i64 m', .int .i64 d'] 23)).cell? ⟨w2.heap.size, 0, none⟩ = some (.int .i64 y') := hN0.cell 0
  have hk1' : (w2.alloc (.cells #[.int .i64 y', .int .i64 m', .int .i64 d'] 23)).cell? ⟨w2.heap.size, 1, none⟩ = some (.int .i64 m') := hN0.cell 1
  have e1 : 12 * y' + m' - 1 + k = 12 * y' + m' - 1 + k := rfl
  obtain ⟨t, ht⟩ : ∃ t, 12 * y' + m' - 1 + k = t := ⟨_, rfl⟩
  have ht1 : -200000 ≤ t := by omega
  have ht2 : t ≤ 300000 := by omega
  have Ht := Held.mk ht
  clear e1
  by_cases hA : t < 12
  · have b1 : decide (t < 12) = true := decide_eq_true hA
    have HA := Held.mk hA
    go_wp2_with fail
    refine (noDay_any _).mono ?_
    rintro e w9 ⟨rfl, rfl⟩
    go_wp2
    go_ret2
    exact ⟨HB3.out, by rw [Ht.out, if_pos (.inl HA.out)]; rfl⟩
  by_cases hB : 120000 ≤ t
  · have b1 : decide (t < 12) = false := decide_eq_false hA
    have b2 : decide (120000 ≤ t) = true := decide_eq_true hB
    have HA := Held.mk hB
    clear hA hB
    go_wp2_with fail
    refine (noDay_any _).mono ?_
    rintro e w9 ⟨rfl, rfl⟩
    go_wp2
    go_ret2
    exact ⟨HB3.out, by rw [Ht.out, if_pos (.inr HA.out)]; rfl⟩
  have b1 : decide (t < 12) = false := decide_eq_false hA
  have b2 : decide (120000 ≤ t) = false := decide_eq_false hB
  have HA : Held (¬ (t < 12 ∨ 120000 ≤ t)) := ⟨by omega⟩
  obtain ⟨Y, hY⟩ : ∃ Y, t / 12 = Y := ⟨_, rfl⟩
  obtain ⟨M, hM⟩ : ∃ M, t % 12 + 1 = M := ⟨_, rfl⟩
  have hY1 : 1 ≤ Y := by omega
  have hY2 : Y ≤ 9999 := by omega
  have hM1 : 1 ≤ M := by omega
  have hM2 : M ≤ 12 := by omega
  have t1 : t.tdiv 12 = Y := by rw [Int.tdiv_eq_ediv_of_nonneg (by omega)]; exact hY
  have t2 : t.tmod 12 = M - 1 := by rw [Int.tmod_eq_emod_of_nonneg (by omega)]; omega
  have t3 : M - 1 + 1 = M := by omega
  have HY := Held.mk hY
  have HM := Held.mk hM
  clear hY hM hA hB
  obtain ⟨ln, hln⟩ : ∃ ln, lengthI Y M = ln := ⟨_, rfl⟩
  have hl1 : 28 ≤ ln := by rw [← hln]; exact len_lo Y M hM1 hM2
  have hl2 : ln ≤ 31 := by rw [← hln]; exact len_hi Y M hM1 hM2
  have Hln := Held.mk hln
  clear hln
  go_wp2_with fail
  have hN4 := Blk.new w2 23 #[.int .i64 Y, .int .i64 M, .int .i64 d']
  have HB4 : Held (Below w.heap.size w (w2.alloc (.cells #[.int .i64 Y, .int .i64 M, .int .i64 d'] 23))) := ⟨HB2.out.alloc hs2 _⟩
  clear hk0 hk1' hN0 HB3
  generalize w2.alloc (.cells #[.int .i64 Y, .int .i64 M, .int .i64 d'] 23) = w4 at *
  have HN4 := Held.mk hN4
  have hgs := hN4.lt
  have k0 := hN4.cell 0
  have k1 := hN4.cell 1
  have k2 := hN4.cell 2
  simp at k0 k1 k2
  clear hN4
  generalize w2.heap.size = g at *
  obtain ⟨mn, hmn⟩ : ∃ mn, minI d' ln = mn := ⟨_, rfl⟩
  have hmn1 : 1 ≤ mn := by rw [← hmn]; unfold minI; split <;> omega
  have hmn2 : mn ≤ 31 := by rw [← hmn]; unfold minI; split <;> omega
  have hmi : (if ln < d' then ln else d') = mn := by rw [← hmn]; unfold minI; (repeat' split) <;> omega
  have Hmn := Held.mk hmn
  clear hmn
  refine start_ (n := 10) (S := fun w' => w'.cell? ⟨g, 0, none⟩ = some (.int .i64 Y) ∧ w'.cell? ⟨g, 1, none⟩ = some (.int .i64 M) ∧ w'.cell? ⟨g, 2, none⟩ = some (.int .i64 d')) (ds := [9]) #[false, false, false, false, false, false, false, false, false, false] (by kernel_rfl) rfl rfl ⟨k0, k1, k2⟩ (fun hHeld => ?_)
  refine pure_ (i := 0) (N := some 45) (v := ?_) (a' := ?_) #[true, false, false, false, false, false, false, false, false, false] rfl rfl (by kernel_rfl) (fun _ _ _ h => h) (Or.inl ⟨by rfl, ?_⟩) ?_ ?_
  rotate_left
  · intro w'
    go_simp
    with_reducible rfl
  rotate_left
  · simp only [Act.put, List.setIfInBounds_toArray, List.set_cons_zero, List.set_cons_succ, i64_w, i32_w]
    rfl
  refine pure_ (i := 2) (N := some 47) (v := ?_) (a' := ?_) #[true, false, true, false, false, false, false, false, false, false] rfl rfl (by kernel_rfl) (fun _ _ _ h => h) (Or.inl ⟨by rfl, ?_⟩) ?_ ?_
  rotate_left
  · intro w'
    go_simp
    with_reducible rfl
  rotate_left
  · simp only [Act.put, List.setIfInBounds_toArray, List.set_cons_zero, List.set_cons_succ, i64_w, i32_w]
    rfl
  refine pure_ (i := 4) (N := some 49) (v := ?_) (a' := ?_) #[true, false, true, false, true, false, false, false, false, false] rfl rfl (by kernel_rfl) (fun _ _ _ h => h) (Or.inl ⟨by rfl, ?_⟩) ?_ ?_
  rotate_left
  · intro w'
    go_simp
    with_reducible rfl
  rotate_left
  · simp only [Act.put, List.setIfInBounds_toArray, List.set_cons_zero, List.set_cons_succ, i64_w, i32_w]
    rfl
  refine take_ (i := 1) (N := some 46) (v := ?_) (a' := ?_) #[true, true, true, false, true, false, false, false, false, false] rfl rfl (by kernel_rfl) (fun _ _ _ h => h) (Or.inl ⟨by rfl, ?_⟩) hHeld ?_ ?_
  rotate_left
  · rintro w' ⟨s0, s1, s2⟩
    go_simp
    with_reducible rfl
  rotate_left
  · simp only [Act.put, List.setIfInBounds_toArray, List.set_cons_zero, List.set_cons_succ, i64_w, i32_w]
    rfl
  refine take_ (i := 3) (N := some 48) (v := ?_) (a' := ?_) #[true, true, true, true, true, false, false, false, false, false] rfl rfl (by kernel_rfl) (fun _ _ _ h => h) (Or.inl ⟨by rfl, ?_⟩) hHeld ?_ ?_
  rotate_left
  · rintro w' ⟨s0, s1, s2⟩
    go_simp
    with_reducible rfl
  rotate_left
  · simp only [Act.put, List.setIfInBounds_toArray, List.set_cons_zero, List.set_cons_succ, i64_w, i32_w]
    rfl
  refine take_ (i := 5) (N := some 50) (v := ?_) (a' := ?_) #[true, true, true, true, true, true, false, false, false, false] rfl rfl (by kernel_rfl) (fun _ _ _ h => h) (Or.inl ⟨by rfl, ?_⟩) hHeld ?_ ?_
  rotate_left
  · rintro w' ⟨s0, s1, s2⟩
    go_simp
    with_reducible rfl
  rotate_left
  · simp only [Act.put, List.setIfInBounds_toArray, List.set_cons_zero, List.set_cons_succ, i64_w, i32_w]
    rfl
  refine one_ (i := 6) (N := some 51) #[true, true, true, true, true, true, true, false, false, false] rfl rfl (by kernel_rfl) (by decide) (fun K hK => ?_)
  refine goes_ Tryd.func31 (by kernel_rfl) rfl #[.int .i64 Y, .int .i64 M] (by rfl) rfl rfl (by simp only [List.map_toArray, List.map_cons, List.map_nil]; rfl) ?_
  with_reducible refine (length_any Y M _ hY1 hY2 hM1 hM2).mono ?_
  rintro e w8 ⟨rfl, hb8⟩
  refine ⟨_, rfl, ?_⟩
  have e0 := (hb8.cell (p := ⟨g, 0, none⟩) hgs).trans k0
  have e1 := (hb8.cell (p := ⟨g, 1, none⟩) hgs).trans k1
  have e2 := (hb8.cell (p := ⟨g, 2, none⟩) hgs).trans k2
  have HN8 := Held.mk (HN4.out.drew.keep (Keep.of_below hb8 (fun _ => False)) (fun h => h))
  have f8 := HN8.out.frozen 2
  have HB8 := Held.mk (HB4.out.drew.trans (hb8.mono HB4.out.size))
  clear hb8
  rw [Hln.out]
  refine hK.out _ _ ⟨e0, e1, e2⟩ (fun hHeld => ?_)
  clear hK K
  refine norm_ (a' := ?_) ?_ ?_
  rotate_left
  · show Act.put _ (some 51) _ = _
    simp only [Act.put, List.setIfInBounds_toArray, List.set_cons_zero, List.set_cons_succ, i64_w, i32_w]
    rfl
  refine pure_ (i := 7) (N := some 52) (v := ?_) (a' := ?_) #[true, true, true, true, true, true, true, true, false, false] rfl rfl (by kernel_rfl) (fun _ _ _ h => h) (Or.inl ⟨by rfl, ?_⟩) ?_ ?_
  rotate_left
  · intro w'
    go_simp
    with_reducible rfl
  rotate_left
  · simp only [Act.put, List.setIfInBounds_toArray, List.set_cons_zero, List.set_cons_succ, i64_w, i32_w]
    rfl
  refine pure_ (i := 8) (N := some 53) (v := ?_) (a' := ?_) #[true, true, true, true, true, true, true, true, true, false] rfl rfl (by kernel_rfl) (fun _ _ _ h => h) (Or.inl ⟨by rfl, ?_⟩) ?_ ?_
  rotate_left
  · intro w'
    go_simp
    with_reducible rfl
  rotate_left
  · simp only [Act.put, List.setIfInBounds_toArray, List.set_cons_zero, List.set_cons_succ, i64_w, i32_w]
    rfl
  refine last_ (i := 9) (N := none) #[true, true, true, true, true, true, true, true, true, true] rfl rfl (by kernel_rfl) (by decide) (fun K hK => ?_)
  refine skip_ (w1 := ?_) (by rfl) rfl ?_ ?_
  rotate_left
  · go_simp
    rfl
  refine hK.out _ _ ?_
  clear hK K
  refine done_ (by kernel_rfl) ?_
  have HN9 : Held (Blk (w8.setCell ⟨g, 2, none⟩ (.int .i64 mn)) g 23 #[.int .i64 Y, .int .i64 M, .int .i64 mn]) := ⟨HN8.out.set_ 2 (.int .i64 mn)⟩
  have HB9 : Held (Below w.heap.size w (w8.setCell ⟨g, 2, none⟩ (.int .i64 mn))) := ⟨HB8.out.setCell hs2 _⟩
  clear HN8 HB8 hHeld
  generalize w8.setCell ⟨g, 2, none⟩ (.int .i64 mn) = w9 at *
  have j0 := HN9.out.cell 0
  have j1 := HN9.out.cell 1
  have j2 := HN9.out.cell 2
  simp at j0 j1 j2
  clear hmi ht
  have hfin : monthsI t d' = numI Y M mn := by unfold monthsI; rw [HY.out, HM.out, Hln.out, Hmn.out]
  have Hfin := Held.mk hfin
  clear hfin
  go_wp2_with fail
  refine (number_any Y M mn w9 hY1 hY2 hM1 hM2 hmn1 hmn2).mono ?_
  rintro e wA ⟨rfl, hbA⟩
  have HBA : Held (Below w.heap.size w wA) := ⟨HB9.out.trans (hbA.mono HB9.out.size)⟩
  clear hbA
  go_wp2
  go_ret2
  exact ⟨HBA.out, by rw [Ht.out, if_neg HA.out, Hfin.out]; rfl⟩
set_option maxHeartbeats 4000000 in
set_option maxRecDepth 100000 in
theorem months_out (n k : Int) (w : World) (h : ¬ (isD n ∧ -119988 ≤ k ∧ k ≤ 119988)) :
    Calls Tryd.prog 18 #[.int .i64 n, .int .i64 k] w fun e w' => e = .returned (.tuple #[.int .i64 0, noDayV]) ∧ w = w' := by
  have hc : decide (1 ≤ n ∧ n ≤ 3652059) = false ∨ decide (1 ≤ n ∧ n ≤ 3652059) = true ∧ decide (k < -119988) = true ∨ decide (1 ≤ n ∧ n ≤ 3652059) = true ∧ decide (k < -119988) = false ∧ decide (119988 < k) = true := by
    simp only [decide_eq_true_eq, decide_eq_false_iff_not]
    unfold isD at h
    omega
  clear h
  rcases hc with h | ⟨h, h2⟩ | ⟨h, h2, h3⟩ <;>
  · go_enter Tryd.func18, Tryd.ntmps18
    go_wp2_with fail
    refine (isDay_any n w).mono ?_
    rintro e w1 ⟨rfl, rfl⟩
    rw [h]
    go_wp2_with fail
    refine (noDay_any _).mono ?_
    rintro e w9 ⟨rfl, rfl⟩
    go_wp2
    go_ret2
    exact ⟨rfl, rfl⟩
set_option maxHeartbeats 4000000 in
set_option maxRecDepth 100000 in
theorem fraction_shown (w : World) : Calls Tryd.prog 20 #[.int .i64 738900, .int .i64 738976, .int .i64 2] w fun e w' => e = .returned (.tuple #[.int .i64 76, .int .i64 360, .nilIface]) ∧ Below w.heap.size w w' := by
  have r1 : Right 2024 1 15 := ⟨by decide, by decide, by decide, by decide, by decide, by decide⟩
  have r2 : Right 2024 3 31 := ⟨by decide, by decide, by decide, by decide, by decide, by decide⟩
  go_enter Tryd.func20, Tryd.ntmps20
  go_wp2_with fail
  refine (isDay_any 738900 w).mono ?_
  rintro e w1 ⟨rfl, rfl⟩
  rw [show decide ((1 : Int) ≤ 738900 ∧ (738900 : Int) ≤ 3652059) = true from rfl]
  go_wp2_with fail
  refine (isDay_any 738976 w).mono ?_
  rintro e w1 ⟨rfl, rfl⟩
  rw [show decide ((1 : Int) ≤ 738976 ∧ (738976 : Int) ≤ 3652059) = true from rfl]
  go_wp2_with fail
  refine (date_any 738900 w (by decide) (by decide)).mono ?_
  rintro e w2 ⟨y, m, d, rfl, hR, hN, hb2⟩
  obtain ⟨rfl, rfl, rfl⟩ := hR.inj r1 (by rw [hN]; decide)
  have HB2 := Held.mk hb2
  have hs2 := hb2.size
  clear hb2 hR hN
  go_wp2_with fail
  refine (date_any 738976 w2 (by decide) (by decide)).mono ?_
  rintro e w3 ⟨y, m, d, rfl, hR, hN, hb3⟩
  obtain ⟨rfl, rfl, rfl⟩ := hR.inj r2 (by rw [hN]; decide)
  have HB3 : Held (Below w.heap.size w w3) := ⟨HB2.out.trans (hb3.mono hs2)⟩
  have hs3 := hb3.size
  clear hb3 hR hN
  unfold Dt
  have hwh : w.heap.size ≤ w3.heap.size := by omega
  go_wp2
  have hs4 := HB3.out.size
  go_ret3
  exact ⟨rfl, (HB3.out.alloc (by omega) _).alloc (by simp; omega) _⟩
end Cal
end Go.Proofs.YtlnkdgjlbpldpaaDoor
