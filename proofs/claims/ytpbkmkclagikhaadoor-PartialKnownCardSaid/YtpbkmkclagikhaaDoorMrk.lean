/- The marks of legs: walked. -/
import Derived.Test.YtpbkmkclagikhaaDoorLgs
namespace Go.Proofs.YtpbkmkclagikhaaDoor
set_option linter.unusedVariables false
set_option linter.unusedSimpArgs false
namespace Prt
open Go.RowKit Mem Dvs Err
/-- The mark of element i of list k. -/
def mk5 (k i : Nat) : Lg := ⟨-10 - (k : Int), i, 0, 0, 0⟩
set_option maxHeartbeats 1000000 in
set_option maxRecDepth 100000 in
theorem mark_in (k i : Nat) (w : World) (hk : k ≤ 1000000) :
    Calls Tryd.prog 36 #[.int .i64 k, .int .i64 i] w fun e w' => e = .returned (.agg (mk5 k i).cells.toArray) ∧ Below w.heap.size w w' := by
  have hkI : (k : Int) ≤ 1000000 := by omega
  clear hk
  go_enter Tryd.func36, Tryd.ntmps36
  go_wp2
  have HN := Blk.new w 76 #[.int .i64 (-10 - (k : Int)), .int .i64 i, .int .i64 0, .int .i64 0, .int .i64 0]
  exact bodyPost_ret (results_cell_row rfl _ _ w.heap.size 76 #[.int .i64 (-10 - (k : Int)), .int .i64 i, .int .i64 0, .int .i64 0, .int .i64 0] (0, 0) _ rfl HN Tryd.underlying76 rfl (by kernel_rfl)) rfl ⟨rfl, (Below.refl _ _).alloc (Nat.le_refl _) _⟩
end Prt
end Go.Proofs.YtpbkmkclagikhaaDoor
