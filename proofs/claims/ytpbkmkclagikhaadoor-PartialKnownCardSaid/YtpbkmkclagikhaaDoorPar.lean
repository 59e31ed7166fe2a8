/- partial's Part, and the law's works: walked. -/
import Derived.Test.YtpbkmkclagikhaaDoorPrt
namespace Go.Proofs.YtpbkmkclagikhaaDoor
set_option linter.unusedVariables false
set_option linter.unusedSimpArgs false
namespace Prt
open Go.RowKit Mem Dvs
/-- How much may settle now. -/
def part (left lot least have_ : Int) : Int := if left ≤ have_ then left else if have_ - have_ % lot < least then 0 else have_ - have_ % lot
set_option maxHeartbeats 4000000 in
set_option maxRecDepth 100000 in
theorem Part_in (left lot least have_ : Int) (w : World) (h1 : 0 ≤ left) (h2 : 1 ≤ lot) (h3 : 0 ≤ least) (h4 : 0 ≤ have_) (h5 : have_ ≤ 9223372036854775807) :
    Calls Tryd.prog 10 #[.int .i64 left, .int .i64 lot, .int .i64 least, .int .i64 have_] w fun e w' => e = .returned (.tuple #[.int .i64 (part left lot least have_), .nilIface]) ∧ w' = w := by
  obtain ⟨m, hm, Hm⟩ := min3 Tryd.prog left least have_
  have i1 : decide (m < 0) = false := decide_eq_false_iff_not.2 (by have := Hm.out; omega)
  have i2 : decide (lot < 1) = false := decide_eq_false_iff_not.2 (by omega)
  have i0 : (lot == 0) = false := beq_eq_false_iff_ne.2 (by omega)
  have i6 : 0 ≤ have_ % lot := Int.emod_nonneg _ (by omega)
  have i7 : have_ % lot ≤ have_ := by
    have h := Int.emod_add_mul_ediv have_ lot
    have := Int.mul_nonneg (show 0 ≤ lot by omega) (Int.ediv_nonneg h4 (show 0 ≤ lot by omega))
    omega
  by_cases c1 : left ≤ have_
  · have j1 : decide (left ≤ have_) = true := decide_eq_true_iff.2 c1
    have HP := Held.mk (show part left lot least have_ = left by unfold part; rw [if_pos c1])
    clear c1
    rw [HP.out]
    go_enter Tryd.func10, Tryd.ntmps10
    go_wp2
    go_ret2
    exact ⟨rfl, rfl⟩
  · have j1 : decide (left ≤ have_) = false := decide_eq_false_iff_not.2 c1
    by_cases c2 : have_ - have_ % lot < least
    · have j2 : decide (have_ - have_ % lot < least) = true := decide_eq_true_iff.2 c2
      have HP := Held.mk (show part left lot least have_ = 0 by unfold part; rw [if_neg c1, if_pos c2])
      clear c1 c2
      rw [HP.out]
      go_enter Tryd.func10, Tryd.ntmps10
      go_wp2
      go_ret2
      exact ⟨rfl, rfl⟩
    · have j2 : decide (have_ - have_ % lot < least) = false := decide_eq_false_iff_not.2 c2
      have HP := Held.mk (show part left lot least have_ = have_ - have_ % lot by unfold part; rw [if_neg c1, if_neg c2])
      clear c1 c2
      rw [HP.out]
      go_enter Tryd.func10, Tryd.ntmps10
      go_wp2
      go_ret2
      exact ⟨rfl, rfl⟩
set_option maxHeartbeats 4000000 in
set_option maxRecDepth 100000 in
theorem Part_no (left lot least have_ : Int) (w : World) (h : left < 0 ∨ lot < 1 ∨ least < 0 ∨ have_ < 0) :
    Calls Tryd.prog 10 #[.int .i64 left, .int .i64 lot, .int .i64 least, .int .i64 have_] w fun e w' => e = .returned (.tuple #[.int .i64 0, refusedV]) ∧ w' = w := by
  unfold refusedV
  obtain ⟨m, hm, Hm⟩ := min3 Tryd.prog left least have_
  have H := Held.mk h
  clear h
  by_cases c1 : m < 0
  · have i1 : decide (m < 0) = true := decide_eq_true_iff.2 c1
    clear c1
    go_enter Tryd.func10, Tryd.ntmps10
    go_wp2
    go_ret2
    exact ⟨rfl, rfl⟩
  · have i1 : decide (m < 0) = false := decide_eq_false_iff_not.2 c1
    have i2 : decide (lot < 1) = true := decide_eq_true_iff.2 (by have := H.out; have := Hm.out; omega)
    clear c1
    go_enter Tryd.func10, Tryd.ntmps10
    go_wp2
    go_ret2
    exact ⟨rfl, rfl⟩
set_option maxHeartbeats 4000000 in
set_option maxRecDepth 100000 in
theorem works_any (w : World) : Calls Tryd.prog 12 #[] w fun e w' => e = .returned (.bool true) ∧ ∃ n, w' = w.drewN n := by
  have HP := Held.mk (Part_in 100 30 0 99 w (by decide) (by decide) (by decide) (by decide) (by decide))
  rw [show part 100 30 0 99 = 90 by decide] at HP
  have HM := Held.mk (fun w => Money_in 3 10 2 1 w (by decide) (by decide) (by decide) (by decide))
  rw [show mny 3 10 2 1 = 4 by decide] at HM
  go_enter Tryd.func12, Tryd.ntmps12
  go_wp2_with fail
  refine HP.out.mono ?_
  rintro e w1 ⟨rfl, rfl⟩
  go_wp2_with fail
  refine (HM.out _).mono ?_
  rintro e w1 ⟨rfl, n, rfl⟩
  go_wp2
  go_ret
  exact ⟨rfl, _, rfl⟩
end Prt
end Go.Proofs.YtpbkmkclagikhaaDoor
