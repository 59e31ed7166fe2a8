/- Calendar: the exported functions of a day. -/
import Derived.Test.YtlnkdgjlbpldpaaDoorDate
import Derived.Test.YtlnkdgjlbpldpaaDoorWWords
namespace Go.Proofs.YtlnkdgjlbpldpaaDoor
set_option linter.unusedVariables false
set_option linter.unusedSimpArgs false
namespace Cal
open Go.RowKit Mem Go.Proofs.YtlnkdgjlbpldpaaDoorW.PrintLast

def noDayV : Value := .iface 77 (.agg #[.string ⟨#[99, 97, 108, 101, 110, 100, 97, 114]⟩, .int .i64 8])
def errDateV : Value := .iface 68 (.int .i64 8)
set_option maxHeartbeats 1000000 in
set_option maxRecDepth 100000 in
theorem noDay_any (w : World) : Calls Tryd.prog 32 #[] w fun e w' => e = .returned noDayV ∧ w = w' := by
  go_enter Tryd.func32, Tryd.ntmps32
  go_wp2
  go_ret
  exact ⟨rfl, rfl⟩

set_option maxHeartbeats 1000000 in
set_option maxRecDepth 100000 in
theorem weekday_out (n : Int) (w : World) (h : ¬ (1 ≤ n ∧ n ≤ 3652059)) : Calls Tryd.prog 12 #[.int .i64 n] w fun e w' => e = .returned (.tuple #[.int .i64 0, noDayV]) ∧ w = w' := by
  go_enter Tryd.func12, Tryd.ntmps12
  go_wp2_with fail
  refine (isDay_any n w).mono ?_
  rintro e w1 ⟨rfl, rfl⟩
  rw [decide_eq_false h]
  clear h
  go_wp2_with fail
  refine (noDay_any w).mono ?_
  rintro e w1 ⟨rfl, rfl⟩
  go_wp2
  go_ret2
  exact ⟨rfl, rfl⟩
set_option maxHeartbeats 1000000 in
set_option maxRecDepth 100000 in
theorem weekday_in (n : Int) (w : World) (h1 : 1 ≤ n) (h2 : n ≤ 3652059) : Calls Tryd.prog 12 #[.int .i64 n] w fun e w' => e = .returned (.tuple #[.int .i64 ((n + 6) % 7), .nilIface]) ∧ w = w' := by
  go_enter Tryd.func12, Tryd.ntmps12
  go_wp2_with fail
  refine (isDay_any n w).mono ?_
  rintro e w1 ⟨rfl, rfl⟩
  rw [decide_eq_true (And.intro h1 h2)]
  go_wp2_with fail
  refine (weekday_any n w (by omega) (by omega)).mono ?_
  rintro e w1 ⟨rfl, rfl⟩
  rw [Int.tmod_eq_emod_of_nonneg (by omega)]
  go_wp2
  go_ret2
  exact ⟨rfl, rfl⟩
theorem numI_bounds {y m d : Int} (h : Right y m d) : 1 ≤ numI y m d ∧ numI y m d ≤ 3652059 := h.last
set_option maxHeartbeats 4000000 in
set_option maxRecDepth 100000 in
theorem of_out (n : Int) (w : World) (h : ¬ (1 ≤ n ∧ n ≤ 3652059)) : Calls Tryd.prog 10 #[.int .i64 n] w fun e w' => e = .returned (.tuple #[Dt 0 0 0, errDateV]) ∧ Below w.heap.size w w' := by
  have hN := Held.mk (Blk.new w 23 #[.int .i64 0, .int .i64 0, .int .i64 0])
  have HB := Held.mk ((Below.refl w.heap.size w).alloc (Nat.le_refl _) (.cells #[.int .i64 0, .int .i64 0, .int .i64 0] 23))
  go_enter Tryd.func10, Tryd.ntmps10
  go_wp2_with fail
  refine (isDay_any n _).mono ?_
  rintro e w1 ⟨rfl, rfl⟩
  rw [decide_eq_false h]
  clear h
  generalize w.alloc (.cells #[.int .i64 0, .int .i64 0, .int .i64 0] 23) = w1 at *
  have k0 := hN.out.cell 0
  have k1 := hN.out.cell 1
  have k2 := hN.out.cell 2
  simp at k0 k1 k2
  have f0 := hN.out.frozen 0
  have f1 := hN.out.frozen 1
  have f2 := hN.out.frozen 2
  go_wp2
  exact bodyPost_ret (Go.Proofs.YtlnkdgjlbpldpaaDoorW.PrintWords.results_ct rfl _ _ w.heap.size 23 #[.int .i64 0, .int .i64 0, .int .i64 0] (0, 0) _ rfl (((hN.out.set_ 0 (.int .i64 0)).set_ 1 (.int .i64 0)).set_ 2 (.int .i64 0)) Tryd.underlying23 rfl (by kernel_rfl)) rfl ⟨rfl, ((HB.out.setCell (Nat.le_refl _) _).setCell (Nat.le_refl _) _).setCell (Nat.le_refl _) _⟩
def ofRes (n : Int) (w : World) (e : Ending) (w' : World) : Prop := ∃ y m d, e = .returned (.tuple #[Dt y m d, .nilIface]) ∧ Right y m d ∧ numI y m d = n ∧ Below w.heap.size w w'
set_option maxHeartbeats 4000000 in
set_option maxRecDepth 100000 in
theorem of_in (n : Int) (w : World) (h1 : 1 ≤ n) (h2 : n ≤ 3652059) : Calls Tryd.prog 10 #[.int .i64 n] w (ofRes n w) := by
  have hN := Held.mk (Blk.new w 23 #[.int .i64 0, .int .i64 0, .int .i64 0])
  have HB := Held.mk ((Below.refl w.heap.size w).alloc (Nat.le_refl _) (.cells #[.int .i64 0, .int .i64 0, .int .i64 0] 23))
  go_enter Tryd.func10, Tryd.ntmps10
  go_wp2_with fail
  refine (isDay_any n _).mono ?_
  rintro e w1 ⟨rfl, rfl⟩
  rw [decide_eq_true (And.intro h1 h2)]
  generalize w.alloc (.cells #[.int .i64 0, .int .i64 0, .int .i64 0] 23) = w1 at *
  have hlt := hN.out.lt
  go_wp2_with fail
  refine (date_any n w1 h1 h2).mono ?_
  rintro e w2 ⟨y, m, d, rfl, hR, hn, hb⟩
  have HN2 := Held.mk (hN.out.keep (Keep.of_below hb (fun _ => False)) (fun h => h))
  have HB2 : Held (Below w.heap.size w w2) := ⟨HB.out.trans (hb.mono (Nat.le_of_lt hlt))⟩
  have HR := Held.mk hR
  have HN := Held.mk hn
  clear hb hR hn HB hN
  unfold Dt
  have k0 := HN2.out.cell 0
  have k1 := HN2.out.cell 1
  have k2 := HN2.out.cell 2
  simp at k0 k1 k2
  have f0 := HN2.out.frozen 0
  have f1 := HN2.out.frozen 1
  have f2 := HN2.out.frozen 2
  go_wp2
  exact bodyPost_ret (Go.Proofs.YtlnkdgjlbpldpaaDoorW.PrintWords.results_ct rfl _ _ w.heap.size 23 #[.int .i64 y, .int .i64 m, .int .i64 d] (0, 0) _ rfl (((HN2.out.set_ 0 (.int .i64 y)).set_ 1 (.int .i64 m)).set_ 2 (.int .i64 d)) Tryd.underlying23 rfl (by kernel_rfl)) rfl ⟨y, m, d, rfl, HR.out, HN.out, ((HB2.out.setCell (Nat.le_refl _) _).setCell (Nat.le_refl _) _).setCell (Nat.le_refl _) _⟩
end Cal
end Go.Proofs.YtlnkdgjlbpldpaaDoor
