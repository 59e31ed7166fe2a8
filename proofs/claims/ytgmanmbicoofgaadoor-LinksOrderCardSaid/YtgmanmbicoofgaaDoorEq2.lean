/- Two pairs compared. -/
import Derived.Test.YtgmanmbicoofgaaDoorFit
namespace Go.Proofs.YtgmanmbicoofgaaDoor
set_option linter.unusedVariables false
set_option linter.unusedSimpArgs false
namespace Ktw
open Go.RowKit Mem
theorem info_i : ∃ i, Tryd.prog.info? 3 = some i ∧ i.size = 1 := by
  obtain ⟨i, hi, h⟩ := Option.map_eq_some_iff.1 Grp.infoI
  exact ⟨i, hi, by simp at h; exact h.2.1⟩
theorem eq_two (d : Nat) (x y u v : Int) (W : World) : (Op.equalIn (d + 2) 73 (.agg #[.int .i64 x, .int .i64 y]) (.agg #[.int .i64 u, .int .i64 v])).run Tryd.prog W = .ok (x == u && y == v) W := by
  obtain ⟨i, hi, hs⟩ := info_i
  have h1 : ∀ a b : Int, (Op.equalIn (d + 1) 3 (.int .i64 a) (.int .i64 b)).run Tryd.prog W = .ok (a == b) W := fun a b => run_equalIn_int W d _ .i64 .i64 a b Tryd.underlying3
  unfold Op.equalIn
  simp only [Sem.run_bind, run_underlying Tryd.underlying73, Result.andThen_ok]
  have p0 : ∀ a b : Int, ∀ W' : World, (part 3 #[.int .i64 a, .int .i64 b] 0).run Tryd.prog W' = .ok (.int .i64 a) W' := fun a b W' => by
    simp [part, isAgg, underlying, Tryd.underlying3, sizeOf, typeInfo, hi, hs, Result.andThen]
  have p1 : ∀ a b : Int, ∀ W' : World, (part 3 #[.int .i64 a, .int .i64 b] 1).run Tryd.prog W' = .ok (.int .i64 b) W' := fun a b W' => by
    simp [part, isAgg, underlying, Tryd.underlying3, sizeOf, typeInfo, hi, hs, Result.andThen]
  have sz : (sizeOf 3).run Tryd.prog W = .ok 1 W := by simp [sizeOf, typeInfo, hi, hs, Result.andThen]
  simp only [sz, Result.andThen_ok, Nat.mul_one]
  simp only [Std.Legacy.Range.forIn_eq_forIn_range']
  have hr : List.range' ([:2] : Std.Legacy.Range).start ([:2] : Std.Legacy.Range).size ([:2] : Std.Legacy.Range).step = [0, 1] := rfl
  rw [hr]
  simp only [List.forIn_cons, List.forIn_nil, Sem.run_bind, p0, p1, h1, Result.andThen_ok]
  cases hxu : (x == u) <;> cases hyv : (y == v) <;> simp [hxu, hyv, Result.andThen, Sem.run_bind, p0, p1, h1]
end Ktw
end Go.Proofs.YtgmanmbicoofgaaDoor
