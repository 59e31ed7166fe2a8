/- PartialPart: the document's Part, the law: walked. -/
import Derived.Test.YtpbkmkclagikhaaDoorPar
import Derived.Test.YtpbkmkclagikhaaDoorErP
namespace Go.Proofs.YtpbkmkclagikhaaDoor
set_option linter.unusedVariables false
set_option linter.unusedSimpArgs false
namespace Prt
open Go.RowKit Mem Dvs Err
theorem below_drewN {B : Nat} {a w : World} (h : Below B a w) (n : Nat) : Below B a (w.drewN n) := ⟨h.os, h.tape, h.output, h.size, h.block⟩
set_option maxHeartbeats 4000000 in
set_option maxRecDepth 100000 in
theorem rPart_in (left lot least have_ : Int) (w : World) (h1 : 0 ≤ left) (h2 : 1 ≤ lot) (h3 : 0 ≤ least) (h4 : 0 ≤ have_) (h5 : have_ ≤ 9223372036854775807) :
    Calls Tryd.prog 9 #[.int .i64 left, .int .i64 lot, .int .i64 least, .int .i64 have_] w fun e w' => e = .returned (.tuple #[.int .i64 (part left lot least have_), .int .i64 0]) ∧ w' = w := by
  have i0 : (lot == 0) = false := beq_eq_false_iff_ne.2 (by omega)
  have hdm := Int.ediv_mul_add_emod have_ lot
  have i6 : 0 ≤ have_ % lot := Int.emod_nonneg _ (by omega)
  have i7 : 0 ≤ have_ / lot * lot := Int.mul_nonneg (Int.ediv_nonneg h4 (by omega)) (by omega)
  have hq0 : 0 ≤ have_ / lot := Int.ediv_nonneg h4 (by omega)
  have hq1 : have_ / lot ≤ have_ := by
    have := Int.mul_le_mul_of_nonneg_left h2 hq0
    omega
  by_cases c1 : left ≤ have_
  · have j1 : decide (left ≤ have_) = true := decide_eq_true_iff.2 c1
    have HP := Held.mk (show part left lot least have_ = left by unfold part; rw [if_pos c1])
    clear c1 hdm
    rw [HP.out]
    go_enter Tryd.func9, Tryd.ntmps9
    go_wp2
    go_ret2
    exact ⟨rfl, rfl⟩
  · have j1 : decide (left ≤ have_) = false := decide_eq_false_iff_not.2 c1
    have e : have_ - have_ % lot = have_ / lot * lot := by omega
    have hle : have_ / lot * lot ≤ have_ := by omega
    by_cases c2 : have_ / lot * lot < least
    · have j2 : decide (have_ / lot * lot < least) = true := decide_eq_true_iff.2 c2
      have HP := Held.mk (show part left lot least have_ = 0 by unfold part; rw [if_neg c1, e, if_pos c2])
      clear c1 c2 hdm e
      rw [HP.out]
      go_enter Tryd.func9, Tryd.ntmps9
      go_wp2
      go_ret2
      exact ⟨rfl, rfl⟩
    · have j2 : decide (have_ / lot * lot < least) = false := decide_eq_false_iff_not.2 c2
      have HP := Held.mk (show part left lot least have_ = have_ / lot * lot by unfold part; rw [if_neg c1, e, if_neg c2])
      clear c1 c2 hdm e
      rw [HP.out]
      go_enter Tryd.func9, Tryd.ntmps9
      go_wp2
      go_ret2
      exact ⟨rfl, rfl⟩
set_option maxHeartbeats 4000000 in
set_option maxRecDepth 100000 in
theorem rPart_no (left lot least have_ : Int) (w : World) (h : left < 0 ∨ lot < 1 ∨ least < 0 ∨ have_ < 0) :
    Calls Tryd.prog 9 #[.int .i64 left, .int .i64 lot, .int .i64 least, .int .i64 have_] w fun e w' => e = .returned (.tuple #[.int .i64 0, .int .i64 1]) ∧ w' = w := by
  have hc : (decide (left < 0) = true) ∨ (decide (left < 0) = false ∧ decide (least < 0) = true) ∨ (decide (left < 0) = false ∧ decide (least < 0) = false ∧ decide (have_ < 0) = true) ∨ (decide (left < 0) = false ∧ decide (least < 0) = false ∧ decide (have_ < 0) = false ∧ decide (lot < 1) = true) := by
    simp only [decide_eq_true_eq, decide_eq_false_iff_not]
    omega
  clear h
  rcases hc with c1 | ⟨c1, c2⟩ | ⟨c1, c2, c3⟩ | ⟨c1, c2, c3, c4⟩
  all_goals
    go_enter Tryd.func9, Tryd.ntmps9
    go_wp2
    go_ret2
    exact ⟨rfl, rfl⟩
theorem plain_refused (w : World) (hg : Laid w) : Calls Tryd.prog 11 #[refusedV, .int .i64 1] w fun e w' => e = .returned (.bool true) ∧ Below w.heap.size w w' :=
  plain_err _ _ 1 1 w (isErr_wrong 1) (by decide) (by decide) hg
theorem plain_ok (w : World) : Calls Tryd.prog 11 #[.nilIface, .int .i64 0] w fun e w' => e = .returned (.bool true) ∧ Below w.heap.size w w' := plain_nil 0 w
set_option maxHeartbeats 4000000 in
set_option maxRecDepth 100000 in
theorem partLaw_any (x0 x1 x2 x3 : Int) (w : World) (hg : Laid w) (h5 : x3 ≤ 9223372036854775807) :
    Calls Tryd.prog 3 #[.agg #[.int .i64 x0, .int .i64 x1, .int .i64 x2, .int .i64 x3]] w fun e w' => e = .returned (.bool true) ∧ Below w.heap.size w w' := by
  have HB0 : Held (Below w.heap.size w (w.alloc (.cells #[.int .i64 x0, .int .i64 x1, .int .i64 x2, .int .i64 x3] 22))) := ⟨(Below.refl _ _).alloc (Nat.le_refl _) _⟩
  have HG := Held.mk (hg.below HB0.out)
  have HW := Held.mk works_any
  by_cases hm : x0 < 0 ∨ x1 < 1 ∨ x2 < 0 ∨ x3 < 0
  · have H1 := Held.mk (fun w => Part_no x0 x1 x2 x3 w hm)
    have H2 := Held.mk (fun w => rPart_no x0 x1 x2 x3 w hm)
    have HP := Held.mk plain_refused
    unfold refusedV at H1 HP
    clear hm h5 hg
    go_enter Tryd.func3, Tryd.ntmps3
    go_wp2_with fail
    refine (H2.out _).mono ?_
    rintro e w1 ⟨rfl, rfl⟩
    go_wp2_with fail
    refine (H1.out _).mono ?_
    rintro e w1 ⟨rfl, rfl⟩
    go_wp2_with fail
    refine (HP.out _ HG.out).mono ?_
    rintro e w1 ⟨rfl, hb⟩
    have HB1 : Held (Below w.heap.size w w1) := ⟨HB0.out.trans (hb.mono HB0.out.size)⟩
    clear hb
    go_wp2_with fail
    refine (HW.out _).mono ?_
    rintro e w2 ⟨rfl, n, rfl⟩
    go_wp2
    go_ret
    exact ⟨rfl, below_drewN HB1.out _⟩
  · have H1 := Held.mk (fun w => Part_in x0 x1 x2 x3 w (by omega) (by omega) (by omega) (by omega) h5)
    have H2 := Held.mk (fun w => rPart_in x0 x1 x2 x3 w (by omega) (by omega) (by omega) (by omega) h5)
    have HP := Held.mk plain_ok
    generalize part x0 x1 x2 x3 = p at *
    clear hm h5 hg
    go_enter Tryd.func3, Tryd.ntmps3
    go_wp2_with fail
    refine (H2.out _).mono ?_
    rintro e w1 ⟨rfl, rfl⟩
    go_wp2_with fail
    refine (H1.out _).mono ?_
    rintro e w1 ⟨rfl, rfl⟩
    go_wp2_with fail
    refine (HP.out _).mono ?_
    rintro e w1 ⟨rfl, hb⟩
    have HB1 : Held (Below w.heap.size w w1) := ⟨HB0.out.trans (hb.mono HB0.out.size)⟩
    clear hb
    go_wp2_with fail
    refine (HW.out _).mono ?_
    rintro e w2 ⟨rfl, n, rfl⟩
    go_wp2
    go_ret
    exact ⟨rfl, below_drewN HB1.out _⟩
end Prt
end Go.Proofs.YtpbkmkclagikhaaDoor
