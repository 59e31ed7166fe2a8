/- partial's Money, Part, New, cost: walked. -/
import Derived.Test.YtpbkmkclagikhaaDoorMul
import Derived.Test.YtpbkmkclagikhaaDoorShr
namespace Go.Proofs.YtpbkmkclagikhaaDoor
set_option linter.unusedVariables false
set_option linter.unusedSimpArgs false
namespace Prt
open Go.RowKit Mem Dvs
def refusedV : Value := .iface 66 (.agg #[.int .i64 1])
theorem sub_cast {x y : Nat} (h : y ≤ x) : ((x - y : Nat) : Int) = (x : Int) - (y : Int) := by omega
set_option maxHeartbeats 4000000 in
set_option maxRecDepth 100000 in
theorem money_in (q a d p : Nat) (w : World) (hq : 0 < q) (hqm : q ≤ 9223372036854775807) (ha : a ≤ 9223372036854775807) (hd : d + p ≤ q) :
    Calls Tryd.prog 32 #[.int .i64 q, .int .i64 a, .int .i64 d, .int .i64 p] w fun e w' => e = .returned (.int .i64 (mny q a d p)) ∧ ∃ n, w' = w.drewN n := by
  have H1 := Held.mk (fun w => muldiv_in a d q w ha (by omega) hq hqm)
  have H2 := Held.mk (fun w => muldiv_in a (d + p) q w ha hd hq hqm)
  have h1 : shr q a d ≤ shr q a (d + p) := shr_mono (Nat.le_add_right _ _)
  have h2 : shr q a (d + p) ≤ a := shr_le hq hd
  have e0 : (mny q a d p : Int) = (shr q a (d + p) : Int) - (shr q a d : Int) := sub_cast h1
  rw [e0]
  unfold shr at *
  generalize a * d / q = x at *
  generalize a * (d + p) / q = y at *
  have ix : (x : Int) ≤ (y : Int) := by omega
  have iy : (y : Int) ≤ 9223372036854775807 := by omega
  have ip : (d : Int) + (p : Int) ≤ 9223372036854775807 := by omega
  clear e0 h1 h2 hqm ha hd
  go_enter Tryd.func32, Tryd.ntmps32
  go_wp2_with fail
  refine (H1.out w).mono ?_
  rintro e w1 ⟨rfl, n1, rfl⟩
  go_wp2_with fail
  rw [← Int.natCast_add d p]
  refine (H2.out _).mono ?_
  rintro e w2 ⟨rfl, n2, rfl⟩
  go_wp2
  go_ret
  exact ⟨rfl, _, rfl⟩
theorem min3 (P : Program) (x y z : Int) : ∃ m : Int, (∀ (ts : Array TypeId) (t : TypeId) (w : World), (Builtin.min_ ts t #[.int .i64 x, .int .i64 y, .int .i64 z]).run P w = .ok (.int .i64 m) w) ∧ Held ((m < 0 ↔ x < 0 ∨ y < 0 ∨ z < 0) ∧ m ≤ x ∧ m ≤ y ∧ m ≤ z) := by
  refine ⟨if z < (if y < x then y else x) then z else (if y < x then y else x), fun ts t w => by simp [Builtin.min_, Builtin.min2], ⟨?_⟩⟩
  (repeat' split) <;> omega
/-- Are these numbers of a part? -/
def mright (q a d p : Int) : Prop := 1 ≤ q ∧ 0 ≤ a ∧ 0 ≤ d ∧ 0 ≤ p ∧ d ≤ q ∧ p ≤ q - d
set_option maxHeartbeats 4000000 in
set_option maxRecDepth 100000 in
theorem Money_in (q a d p : Nat) (w : World) (hq : 0 < q) (hqm : q ≤ 9223372036854775807) (ha : a ≤ 9223372036854775807) (hd : d + p ≤ q) :
    Calls Tryd.prog 14 #[.int .i64 q, .int .i64 a, .int .i64 d, .int .i64 p] w fun e w' => e = .returned (.tuple #[.int .i64 (mny q a d p), .nilIface]) ∧ ∃ n, w' = w.drewN n := by
  have H1 := Held.mk (money_in q a d p w hq hqm ha hd)
  obtain ⟨m, hm, Hm⟩ := min3 Tryd.prog a d p
  have i1 : decide ((q : Int) < 1) = false := decide_eq_false_iff_not.2 (by omega)
  have i2 : (q : Int) ≤ 9223372036854775807 := by omega
  have i3 : decide (q < d) = false := decide_eq_false_iff_not.2 (by omega)
  have i4 : decide ((q : Int) - (d : Int) < (p : Int)) = false := decide_eq_false_iff_not.2 (by omega)
  have i5 : decide (m < 0) = false := decide_eq_false_iff_not.2 (by have := Hm.out; omega)
  have i6 : (d : Int) ≤ (q : Int) := by omega
  clear hq hqm ha hd
  go_enter Tryd.func14, Tryd.ntmps14
  go_wp2_with fail
  refine H1.out.mono ?_
  rintro e w1 ⟨rfl, n1, rfl⟩
  go_wp2
  go_ret2
  exact ⟨rfl, _, rfl⟩
set_option maxHeartbeats 4000000 in
set_option maxRecDepth 100000 in
theorem Money_no (q a d p : Int) (w : World) (hq : -9223372036854775808 ≤ q ∧ q ≤ 9223372036854775807) (h : ¬ mright q a d p) :
    Calls Tryd.prog 14 #[.int .i64 q, .int .i64 a, .int .i64 d, .int .i64 p] w fun e w' => e = .returned (.tuple #[.int .i64 0, refusedV]) ∧ w' = w := by
  unfold refusedV
  obtain ⟨hq1, hq2⟩ := hq
  have H := Held.mk h
  clear h
  by_cases c1 : q < 1
  · have i1 : decide (q < 1) = true := decide_eq_true_iff.2 c1
    clear c1
    go_enter Tryd.func14, Tryd.ntmps14
    go_wp2
    go_ret2
    exact ⟨rfl, rfl⟩
  · have i1 : decide (q < 1) = false := decide_eq_false_iff_not.2 c1
    obtain ⟨m, hm, Hm⟩ := min3 Tryd.prog a d p
    by_cases c2 : m < 0
    · have i2 : decide (m < 0) = true := decide_eq_true_iff.2 c2
      clear c2 c1
      go_enter Tryd.func14, Tryd.ntmps14
      go_wp2
      go_ret2
      exact ⟨rfl, rfl⟩
    · have i2 : decide (m < 0) = false := decide_eq_false_iff_not.2 c2
      by_cases c3 : q < d
      · have i3 : decide (q < d) = true := decide_eq_true_iff.2 c3
        clear c3 c2 c1
        go_enter Tryd.func14, Tryd.ntmps14
        go_wp2
        go_ret2
        exact ⟨rfl, rfl⟩
      · have i3 : decide (q < d) = false := decide_eq_false_iff_not.2 c3
        have hd0 : 0 ≤ d := by have := Hm.out; omega
        have hdq : d ≤ q := by omega
        have i4 : decide (q - d < p) = true := decide_eq_true_iff.2 (by
          have := H.out
          have := Hm.out
          unfold mright at *
          omega)
        clear c3 c2 c1
        go_enter Tryd.func14, Tryd.ntmps14
        go_wp2
        go_ret2
        exact ⟨rfl, rfl⟩
set_option maxHeartbeats 4000000 in
set_option maxRecDepth 100000 in
theorem cost_in (B q a l m d p0 p : Nat) (v : Value) (w : World) (hb : Blk w B 80 #[.int .i64 q, .int .i64 a, .int .i64 l, .int .i64 m, .int .i64 d, .int .i64 p0, v]) (hq : 0 < q) (hqm : q ≤ 9223372036854775807) (ha : a ≤ 9223372036854775807) (hd : d + p ≤ q) :
    Calls Tryd.prog 38 #[.pointer (some ⟨B, 0, none⟩), .int .i64 p] w fun e w' => e = .returned (.int .i64 (mny q a d p)) ∧ ∃ n, w' = w.drewN n := by
  have H1 := Held.mk (fun w => money_in q a d p w hq hqm ha hd)
  have k0 := hb.cell 0
  have k1 := hb.cell 1
  have k4 := hb.cell 4
  simp at k0 k1 k4
  clear hb hqm ha hd
  go_enter Tryd.func38, Tryd.ntmps38
  go_wp2
  go_quiet ((go_at_call 32; exact Calls.quiet_of (H1.out _)))
  go_wp2
  go_ret
  exact ⟨rfl, _, rfl⟩
end Prt
end Go.Proofs.YtpbkmkclagikhaaDoor
