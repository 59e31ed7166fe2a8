/- errors.As at this program's errors, the target a Fault: it is none. Num and Plain of the law's kit. -/
import Derived.Test.YtgmanmbicoofgaaDoorErr
namespace Go.Proofs.YtgmanmbicoofgaaDoor
set_option linter.unusedVariables false
set_option linter.unusedSimpArgs false
namespace Err
open Go.RowKit Go.Extern.Stop Go.Stop Go.Extern Mem

theorem vPF (t : Addr) (w : World) : (ReflectliteValue.unpack (.iface 96 (.pointer (some t)))).run Tryd.prog w
    = .ok (.agg #[.pointer (some ⟨1, 96, none⟩), .pointer (some ⟨w.heap.size, 0, none⟩), .int .u64 150]) (w.alloc (.cells #[.pointer (some t)] 96)) := by kernel_rfl
theorem tyPF (a : Addr) (w : World) : (ReflectliteValue.methodAny (ReflectliteValue.valueError "reflectlite.Value.Type" 0) (fun t _ _ _ => ReflectliteType.toType t) #[.agg #[.pointer (some ⟨1, 96, none⟩), .pointer (some a), .int .u64 150]]).run Tryd.prog w
    = .ok (.iface 141 (.agg #[.pointer (some ⟨1, 96, none⟩)])) w := by kernel_rfl
theorem mKind (h : Value) (w : World) : (Go.method 310 141 (.agg #[h]) "Kind").run Tryd.prog w = .ok (123, h) w := by kernel_rfl
theorem kPF (w : World) : ((ReflectliteType.abiMethod fun t => (fun a : Nat => Value.int IntKind.u8 (a : Int)) <$> Rtype.kind t) #[.pointer (some ⟨1, 96, none⟩)]).run Tryd.prog w = .ok (.int .u8 22) w := by kernel_rfl
theorem kF (w : World) : ((ReflectliteType.abiMethod fun t => (fun a : Nat => Value.int IntKind.u8 (a : Int)) <$> Rtype.kind t) #[.pointer (some ⟨1, 93, none⟩)]).run Tryd.prog w = .ok (.int .u8 25) w := by kernel_rfl
theorem rlm (z : Sem Value) (f : TypeId → Addr → Nat → Nat → Sem Value) (v : Value) :
    ReflectliteValue.method z f #[v] = (do match ← ReflectliteValue.parts v with | none => z | some (t, a, fl) => f t a fl (fl % 32)) := rfl
theorem partsPF (a : Addr) (w : World) : (ReflectliteValue.parts (.agg #[.pointer (some ⟨1, 96, none⟩), .pointer (some a), .int .u64 150])).run Tryd.prog w = .ok (some (96, a, 150)) w := by kernel_rfl
theorem isNilPF (a p : Addr) (W : World) (ha : W.cell? a = some (.pointer (some p))) :
    (ReflectliteValue.method (ReflectliteValue.valueError "reflectlite.Value.IsNil" 0) ReflectliteValue.isNil #[.agg #[.pointer (some ⟨1, 96, none⟩), .pointer (some a), .int .u64 150]]).run Tryd.prog W = .ok (.bool false) W := by
  rw [rlm]
  simp only [Sem.run_bind, partsPF, Result.andThen]
  simp [ReflectliteValue.isNil, loadVar, isAgg, underlying, Tryd.underlying96, ha, Result.andThen]
theorem mElem (h : Value) (w : World) : (Go.method 310 141 (.agg #[h]) "Elem").run Tryd.prog w = .ok (137, .agg #[h]) w := by kernel_rfl
theorem mImplements (h : Value) (w : World) : (Go.method 310 141 (.agg #[h]) "Implements").run Tryd.prog w = .ok (138, .agg #[h]) w := by kernel_rfl
theorem mAssignable (h : Value) (w : World) : (Go.method 310 141 (.agg #[h]) "AssignableTo").run Tryd.prog w = .ok (135, .agg #[h]) w := by kernel_rfl
theorem elPF (w : World) : (ReflectliteType.method ReflectliteType.elem #[.agg #[.pointer (some ⟨1, 96, none⟩)]]).run Tryd.prog w = .ok (.iface 141 (.agg #[.pointer (some ⟨1, 93, none⟩)])) w := by kernel_rfl
theorem impF (w : World) : (ReflectliteType.relation "Implements" ReflectliteType.implements_ #[.agg #[.pointer (some ⟨1, 93, none⟩)], .iface 141 (.agg #[.pointer (some ⟨1, 28, none⟩)])]).run Tryd.prog w = .ok (.bool true) w := by kernel_rfl
theorem asgE (w : World) : (ReflectliteType.relation "AssignableTo" ReflectliteType.assignableTo #[.agg #[.pointer (some ⟨1, 85, none⟩)], .iface 141 (.agg #[.pointer (some ⟨1, 93, none⟩)])]).run Tryd.prog w = .ok (.bool false) w := by kernel_rfl
theorem asgW (w : World) : (ReflectliteType.relation "AssignableTo" ReflectliteType.assignableTo #[.agg #[.pointer (some ⟨1, 87, none⟩)], .iface 141 (.agg #[.pointer (some ⟨1, 93, none⟩)])]).run Tryd.prog w = .ok (.bool false) w := by kernel_rfl
theorem noAsE (v : Value) (xT : TypeId) (w : World) : (Instr.typeAssert (.iface 85 v) xT 145 true).run Tryd.prog w = .ok (.tuple #[.nilIface, .bool false]) w := run_typeAssert_lacksB Tryd.underlying145 (by kernel_rfl) (by kernel_rfl) v xT w
theorem noAsW (v : Value) (xT : TypeId) (w : World) : (Instr.typeAssert (.iface 87 v) xT 145 true).run Tryd.prog w = .ok (.tuple #[.nilIface, .bool false]) w := run_typeAssert_lacksB Tryd.underlying145 (by kernel_rfl) (by kernel_rfl) v xT w
/-- The variable errors.errorType as the program's text lays it. -/
def Laid (w : World) : Prop := w.cell? ⟨0, 0, none⟩ = some (.iface 141 (.agg #[.pointer (some ⟨1, 28, none⟩)]))
theorem Laid.lt {w : World} (h : Laid w) : 0 < w.heap.size := World.block_lt_of_cell? w _ h
theorem Laid.below {w w' : World} (h : Laid w) (hb : Below w.heap.size w w') : Laid w' := (hb.cell (p := ⟨0, 0, none⟩) h.lt).trans h
set_option maxHeartbeats 4000000 in
set_option maxRecDepth 100000 in
theorem asE (k : Int) (t : Addr) (a b c : Value) (w : World) : Calls Tryd.prog 78 #[errno k, .iface 96 (.pointer (some t)), .agg #[a, b, c], .iface 141 (.agg #[.pointer (some ⟨1, 93, none⟩)])] w fun e w' => e = .returned (.bool false) ∧ Below w.heap.size w w' := by
  unfold errno
  have h10 := @run_callFunc_extern Tryd.prog 85 _ ReflectliteType.typeOf Tryd.func85 (by kernel_rfl) (by kernel_rfl) (by kernel_rfl) (by kernel_rfl)
  have h35 := @run_callFunc_extern Tryd.prog 135 _ (ReflectliteType.relation "AssignableTo" ReflectliteType.assignableTo) Tryd.func135 (by kernel_rfl) (by kernel_rfl) (by kernel_rfl) (by kernel_rfl)
  have tT := tE
  have mA := mAssignable
  have aE := asgE
  have nA := noAsE
  have uE := noUnE
  have vE := noUsE
  go_enter Tryd.func78, Tryd.ntmps78
  go_wp2
  refine wp_loop_rounds 1 ?_
  rw [rounds_succ]
  go_wp2
  go_ret
  exact ⟨rfl, (Below.refl _ _).alloc (Nat.le_refl _) _⟩
set_option maxHeartbeats 4000000 in
set_option maxRecDepth 100000 in
theorem asW (k : Int) (t : Addr) (a b c : Value) (w : World) : Calls Tryd.prog 78 #[wrong k, .iface 96 (.pointer (some t)), .agg #[a, b, c], .iface 141 (.agg #[.pointer (some ⟨1, 93, none⟩)])] w fun e w' => e = .returned (.bool false) ∧ Below w.heap.size w w' := by
  unfold wrong
  have h10 := @run_callFunc_extern Tryd.prog 85 _ ReflectliteType.typeOf Tryd.func85 (by kernel_rfl) (by kernel_rfl) (by kernel_rfl) (by kernel_rfl)
  have h35 := @run_callFunc_extern Tryd.prog 135 _ (ReflectliteType.relation "AssignableTo" ReflectliteType.assignableTo) Tryd.func135 (by kernel_rfl) (by kernel_rfl) (by kernel_rfl) (by kernel_rfl)
  have tT := tE
  have tW' := tW
  have mA := mAssignable
  have aE := asgE
  have aW := asgW
  have nA := noAsE
  have nW := noAsW
  have uE := noUnE
  have vE := noUsE
  have uW := hasUnW
  have mU := mUnwrap
  have HB0 : Held (Below w.heap.size w (w.alloc (.cells #[a, b, c] 123))) := ⟨(Below.refl _ _).alloc (Nat.le_refl _) _⟩
  go_enter Tryd.func78, Tryd.ntmps78
  go_wp2
  refine wp_loop_rounds 2 ?_
  rw [rounds_succ]
  go_wp2_with fail
  refine (unwrap_any k _).mono ?_
  rintro e w1 ⟨rfl, hb1⟩
  have HB1 : Held (Below w.heap.size w w1) := ⟨HB0.out.trans (hb1.mono HB0.out.size)⟩
  clear hb1
  unfold errno
  go_wp2
  rw [rounds_succ]
  go_wp2
  go_ret
  exact ⟨rfl, HB1.out⟩
end Err
end Go.Proofs.YtgmanmbicoofgaaDoor
