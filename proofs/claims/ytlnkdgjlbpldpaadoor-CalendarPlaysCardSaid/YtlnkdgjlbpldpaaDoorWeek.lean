/- Calendar: Week, Easter, Months, Fraction, day. -/
import Derived.Test.YtlnkdgjlbpldpaaDoorNumb
namespace Go.Proofs.YtlnkdgjlbpldpaaDoor
set_option linter.unusedVariables false
set_option linter.unusedSimpArgs false
namespace Cal
open Go.RowKit Mem Go.Proofs.YtlnkdgjlbpldpaaDoorW.PrintLast

def thI (n : Int) : Int := n - (n + 6) % 7 + 3
theorem num11 (y : Int) : numI y 1 1 = ysI y + 1 := by simp [numI, aheadI]
theorem th_in {n : Int} (h1 : 1 ≤ n) (h2 : n ≤ 3652059) : 1 ≤ thI n ∧ thI n ≤ 3652059 := by unfold thI; omega
set_option maxHeartbeats 1000000 in
set_option maxRecDepth 100000 in
theorem week_out (n : Int) (w : World) (h : ¬ (1 ≤ n ∧ n ≤ 3652059)) : Calls Tryd.prog 14 #[.int .i64 n] w fun e w' => e = .returned (.tuple #[.int .i64 0, .int .i64 0, noDayV]) ∧ w = w' := by
  go_enter Tryd.func14, Tryd.ntmps14
  go_wp2_with fail
  refine (isDay_any n w).mono ?_
  rintro e w1 ⟨rfl, rfl⟩
  rw [decide_eq_false h]
  clear h
  go_wp2_with fail
  refine (noDay_any w).mono ?_
  rintro e w1 ⟨rfl, rfl⟩
  go_wp2
  go_ret3
  exact ⟨rfl, rfl⟩
theorem field0 (a b c : Value) (w : World) : (Instr.field 23 (.agg #[a, b, c]) 0).run Tryd.prog w = .ok a w := by kernel_rfl
theorem field1 (a b c : Value) (w : World) : (Instr.field 23 (.agg #[a, b, c]) 1).run Tryd.prog w = .ok b w := by kernel_rfl
theorem field2 (a b c : Value) (w : World) : (Instr.field 23 (.agg #[a, b, c]) 2).run Tryd.prog w = .ok c w := by kernel_rfl
def weekRes (n : Int) (w : World) (e : Ending) (w' : World) : Prop := ∃ y m d, e = .returned (.tuple #[.int .i64 y, .int .i64 ((thI n - (ysI y + 1)) / 7 + 1), .nilIface]) ∧ Right y m d ∧ numI y m d = thI n ∧ Below w.heap.size w w'
set_option maxHeartbeats 1000000 in
set_option maxRecDepth 100000 in
theorem week_in (n : Int) (w : World) (h1 : 1 ≤ n) (h2 : n ≤ 3652059) : Calls Tryd.prog 14 #[.int .i64 n] w (weekRes n w) := by
  have hth := th_in h1 h2
  have Hth : Held (thI n = n - (n + 6) % 7 + 3) := ⟨rfl⟩
  go_enter Tryd.func14, Tryd.ntmps14
  go_wp2_with fail
  refine (isDay_any n w).mono ?_
  rintro e w1 ⟨rfl, rfl⟩
  rw [decide_eq_true (And.intro h1 h2)]
  go_wp2_with fail
  refine (weekday_any n w (by omega) (by omega)).mono ?_
  rintro e w1 ⟨rfl, rfl⟩
  rw [Int.tmod_eq_emod_of_nonneg (by omega)]
  have hw0 : 0 ≤ (n + 6) % 7 := by omega
  have hw1 : (n + 6) % 7 ≤ 6 := by omega
  generalize hwd : (n + 6) % 7 = wd at *
  have Hwd := Held.mk hwd
  clear hwd
  have eth : n - wd + 3 = thI n := Hth.out.symm
  generalize hthg : thI n = th at *
  have Hthg := Held.mk hthg
  clear hthg
  go_wp2_with fail
  refine (date_any th w (by omega) (by omega)).mono ?_
  rintro e w2 ⟨y, m, d, rfl, hR, hn, hb⟩
  have HR := Held.mk hR
  have HN := Held.mk hn
  have HB := Held.mk hb
  have hnb := hR.num
  rw [hn] at hnb
  have hy1 := hR.y1
  have hy2 := hR.y2
  have hys0 := ysI_lo y hy1
  have hys1 := ysI_hi y (by omega)
  clear hR hn hb
  unfold Dt
  have hf := field0
  go_wp2_with fail
  refine (number_any y 1 1 w2 hy1 hy2 (by omega) (by omega) (by omega) (by omega)).mono ?_
  rintro e w3 ⟨rfl, hb⟩
  have HB3 : Held (Below w.heap.size w w3) := ⟨HB.out.trans (hb.mono HB.out.size)⟩
  clear hb
  rw [num11]
  have h0 : 0 ≤ th - (ysI y + 1) := by omega
  generalize hys : ysI y = ys at *
  have Hys := Held.mk hys
  clear hys
  go_wp2
  go_ret3
  exact ⟨y, m, d, by rw [Hys.out, Hthg.out]; rfl, HR.out, HN.out.trans Hthg.out.symm, HB3.out⟩
end Cal
end Go.Proofs.YtlnkdgjlbpldpaaDoor
