/- PartialMoney: the document's Money, the law: walked. -/
import Derived.Test.YtpbkmkclagikhaaDoorRmd
import Derived.Test.YtpbkmkclagikhaaDoorRpt
import Derived.Test.YtpbkmkclagikhaaDoorOrd
namespace Go.Proofs.YtpbkmkclagikhaaDoor
set_option linter.unusedVariables false
set_option linter.unusedSimpArgs false
namespace Prt
open Go.RowKit Mem Dvs Err
set_option maxHeartbeats 4000000 in
set_option maxRecDepth 100000 in
theorem share_in (q a n : Nat) (w : World) (hq : 0 < q) (hqm : q ≤ 9223372036854775807) (ha : a ≤ 9223372036854775807) (hn : n ≤ q) :
    Calls Tryd.prog 31 #[.int .i64 q, .int .i64 a, .int .i64 n] w fun e w' => e = .returned (.int .i64 (shr q a n)) ∧ Below w.heap.size w w' := by
  have H := Held.mk (Wid.rMulDiv_in a n q w ha hn hq hqm)
  unfold shr
  clear hq hqm ha hn
  go_enter Tryd.func31, Tryd.ntmps31
  go_wp2_with fail
  refine H.out.mono ?_
  rintro e w1 ⟨rfl, hb⟩
  have HB := Held.mk hb
  clear hb
  go_wp2
  go_ret
  exact ⟨rfl, HB.out⟩
set_option maxHeartbeats 4000000 in
set_option maxRecDepth 100000 in
theorem rMoney_in (q a d p : Nat) (w : World) (hq : 0 < q) (hqm : q ≤ 9223372036854775807) (ha : a ≤ 9223372036854775807) (hd : d + p ≤ q) :
    Calls Tryd.prog 13 #[.int .i64 q, .int .i64 a, .int .i64 d, .int .i64 p] w fun e w' => e = .returned (.tuple #[.int .i64 (mny q a d p), .int .i64 0]) ∧ Below w.heap.size w w' := by
  have H1 := Held.mk (fun w => share_in q a d w hq hqm ha (by omega))
  have H2 := Held.mk (fun w => share_in q a (d + p) w hq hqm ha hd)
  have h1 : shr q a d ≤ shr q a (d + p) := shr_mono (Nat.le_add_right _ _)
  have h2 : shr q a (d + p) ≤ a := shr_le hq hd
  have e0 : (mny q a d p : Int) = (shr q a (d + p) : Int) - (shr q a d : Int) := sub_cast h1
  rw [e0]
  generalize shr q a d = x at *
  generalize shr q a (d + p) = y at *
  have ix : (x : Int) ≤ (y : Int) := by omega
  have iy : (y : Int) ≤ 9223372036854775807 := by omega
  have ip : (d : Int) + (p : Int) ≤ 9223372036854775807 := by omega
  have i1 : decide ((q : Int) < 1) = false := decide_eq_false (by omega)
  have i2 : (q : Int) ≤ 9223372036854775807 := by omega
  have i3 : decide (q < d) = false := decide_eq_false (by omega)
  have i4 : decide ((q : Int) - (d : Int) < (p : Int)) = false := decide_eq_false (by omega)
  have i6 : (d : Int) ≤ (q : Int) := by omega
  clear e0 h1 h2 hqm ha hd hq
  go_enter Tryd.func13, Tryd.ntmps13
  go_wp2_with fail
  rw [← Int.natCast_add d p]
  refine (H2.out w).mono ?_
  rintro e w1 ⟨rfl, hb⟩
  have HB1 := Held.mk hb
  clear hb
  go_wp2_with fail
  refine (H1.out _).mono ?_
  rintro e w2 ⟨rfl, hb⟩
  have HB2 : Held (Below w.heap.size w w2) := ⟨HB1.out.trans (hb.mono HB1.out.size)⟩
  clear hb
  go_wp2
  go_ret2
  exact ⟨rfl, HB2.out⟩
set_option maxHeartbeats 4000000 in
set_option maxRecDepth 100000 in
theorem rMoney_no (q a d p : Int) (w : World) (hq : -9223372036854775808 ≤ q ∧ q ≤ 9223372036854775807) (h : ¬ mright q a d p) :
    Calls Tryd.prog 13 #[.int .i64 q, .int .i64 a, .int .i64 d, .int .i64 p] w fun e w' => e = .returned (.tuple #[.int .i64 0, .int .i64 1]) ∧ w' = w := by
  have hc : (decide (q < 1) = true) ∨ (decide (q < 1) = false ∧ decide (a < 0) = true) ∨ (decide (q < 1) = false ∧ decide (a < 0) = false ∧ decide (d < 0) = true) ∨ (decide (q < 1) = false ∧ decide (a < 0) = false ∧ decide (d < 0) = false ∧ decide (p < 0) = true) ∨
      (decide (q < 1) = false ∧ decide (a < 0) = false ∧ decide (d < 0) = false ∧ decide (p < 0) = false ∧ decide (q < d) = true) ∨ (decide (q < 1) = false ∧ decide (a < 0) = false ∧ (decide (d < 0) = false ∧ 0 ≤ d ∧ d ≤ q) ∧ decide (p < 0) = false ∧ decide (q < d) = false ∧ decide (q - d < p) = true) := by
    unfold mright at h
    simp only [decide_eq_true_eq, decide_eq_false_iff_not]
    omega
  obtain ⟨hq1, hq2⟩ := hq
  clear h
  rcases hc with c1 | ⟨c1, c2⟩ | ⟨c1, c2, c3⟩ | ⟨c1, c2, c3, c4⟩ | ⟨c1, c2, c3, c4, c5⟩ | ⟨c1, c2, ⟨c3, c3', c3''⟩, c4, c5, c6⟩
  all_goals
    go_enter Tryd.func13, Tryd.ntmps13
    go_wp2
    go_ret2
    exact ⟨rfl, rfl⟩
set_option maxHeartbeats 4000000 in
set_option maxRecDepth 100000 in
theorem moneyLaw_any (x0 x1 x2 x3 : Int) (w : World) (hg : Laid w) (b0 : -9223372036854775808 ≤ x0 ∧ x0 ≤ 9223372036854775807) (b1 : x1 ≤ 9223372036854775807) :
    Calls Tryd.prog 4 #[.agg #[.int .i64 x0, .int .i64 x1, .int .i64 x2, .int .i64 x3]] w fun e w' => e = .returned (.bool true) ∧ Below w.heap.size w w' := by
  have HB0 : Held (Below w.heap.size w (w.alloc (.cells #[.int .i64 x0, .int .i64 x1, .int .i64 x2, .int .i64 x3] 22))) := ⟨(Below.refl _ _).alloc (Nat.le_refl _) _⟩
  have HG := Held.mk (hg.below HB0.out)
  have HX0 := Held.mk (Blk.new w 22 #[.int .i64 x0, .int .i64 x1, .int .i64 x2, .int .i64 x3])
  have HW := Held.mk works_any
  by_cases hm : mright x0 x1 x2 x3
  · obtain ⟨m1, m2, m3, m4, m5, m6⟩ := hm
    obtain ⟨q, rfl⟩ := nat_of (show 0 ≤ x0 by omega)
    obtain ⟨a, rfl⟩ := nat_of m2
    obtain ⟨d, rfl⟩ := nat_of m3
    obtain ⟨p, rfl⟩ := nat_of m4
    have H1 := Held.mk (fun w => Money_in q a d p w (by omega) (by omega) (by omega) (by omega))
    have H2 := Held.mk (fun w => rMoney_in q a d p w (by omega) (by omega) (by omega) (by omega))
    have HP := Held.mk plain_ok
    generalize mny q a d p = k at *
    clear m1 m2 m3 m4 m5 m6 hg b0 b1
    go_enter Tryd.func4, Tryd.ntmps4
    go_wp2_with fail
    generalize w.alloc (.cells #[.int .i64 q, .int .i64 a, .int .i64 d, .int .i64 p] 22) = w0 at *
    refine (H2.out _).mono ?_
    rintro e w1 ⟨rfl, hb⟩
    have HB1 : Held (Below w.heap.size w w1) := ⟨HB0.out.trans (hb.mono HB0.out.size)⟩
    have HX1 := Held.mk (HX0.out.keep (Keep.of_below hb (fun _ => False)) (fun h => h))
    clear hb HB0 HX0
    have k0 := HX1.out.cell 0
    have k1 := HX1.out.cell 1
    have k2 := HX1.out.cell 2
    have k3 := HX1.out.cell 3
    simp at k0 k1 k2 k3
    go_wp2_with fail
    refine (H1.out _).mono ?_
    rintro e w2 ⟨rfl, n1, rfl⟩
    clear k0 k1 k2 k3
    go_wp2_with fail
    refine (HP.out _).mono ?_
    rintro e w3 ⟨rfl, hb⟩
    have HB3 : Held (Below w.heap.size w w3) := ⟨(below_drewN HB1.out n1).trans (hb.mono HB1.out.size)⟩
    clear hb
    go_wp2_with fail
    refine (HW.out _).mono ?_
    rintro e w4 ⟨rfl, n, rfl⟩
    go_wp2
    go_ret
    exact ⟨rfl, below_drewN HB3.out _⟩
  · have H1 := Held.mk (fun w => Money_no x0 x1 x2 x3 w b0 hm)
    have H2 := Held.mk (fun w => rMoney_no x0 x1 x2 x3 w b0 hm)
    have HP := Held.mk plain_refused
    unfold refusedV at H1 HP
    clear hm hg b0 b1
    go_enter Tryd.func4, Tryd.ntmps4
    go_wp2_with fail
    refine (H2.out _).mono ?_
    rintro e w1 ⟨rfl, rfl⟩
    go_wp2_with fail
    refine (H1.out _).mono ?_
    rintro e w1 ⟨rfl, rfl⟩
    go_wp2_with fail
    refine (HP.out _ HG.out).mono ?_
    rintro e w1 ⟨rfl, hb⟩
    have HB1 : Held (Below w.heap.size w w1) := ⟨HB0.out.trans (hb.mono HB0.out.size)⟩
    clear hb
    go_wp2_with fail
    refine (HW.out _).mono ?_
    rintro e w2 ⟨rfl, n, rfl⟩
    go_wp2
    go_ret
    exact ⟨rfl, below_drewN HB1.out _⟩
end Prt
end Go.Proofs.YtpbkmkclagikhaaDoor
