/- errors.Is and errors.As by their contracts, at this program's errors (a number; a number behind a text): Num, Plain. -/
import Derived.Test.YtihgmlcmdpmhhaaProg
import Derived.Test.YtihgmlcmdpmhhaaMem
import Derived.WalkKit
import Derived.LaidEql
import Derived.Stop.Asserts
import Derived.RowKitTokens
namespace Go
section
variable {P : Program} (w : World)
theorem run_equalIn_iface_int (d : Nat) {ti tn : TypeId} {ms : Array (String × TypeId)} {i : TypeInfo} {k : IntKind} (a b : Int)
    (hi : P.underlying ti = some (.interface ms)) (hn : P.underlying tn = some (.int k)) (hinfo : P.info? tn = some i) (hcomp : i.comparable = true) :
    (Op.equalIn (d + 2) ti (.iface tn (.int k a)) (.iface tn (.int k b))).run P w = .ok (a == b) w := by
  simp [Op.equalIn, run_underlying hi, run_underlying hn, typeInfo, hinfo, hcomp]
theorem run_eql_iface_int {ti tn : TypeId} {ms : Array (String × TypeId)} {i : TypeInfo} {k : IntKind} (a b : Int)
    (hi : P.underlying ti = some (.interface ms)) (hn : P.underlying tn = some (.int k)) (hinfo : P.info? tn = some i) (hcomp : i.comparable = true) :
    (binOp .eql ti (.iface tn (.int k a)) (.iface tn (.int k b))).run P w = .ok (.bool (a == b)) w := by
  simp only [binOp]
  simp [Op.equal, Op.maxDepth, run_equalIn_iface_int w 9998 a b hi hn hinfo hcomp]
end
end Go
namespace Go.Proofs.Ytihgmlcmdpmhhaa
set_option linter.unusedVariables false
set_option linter.unusedSimpArgs false
namespace Err
open Go.RowKit Go.Extern.Stop Go.Stop Go.Extern Mem

/-! Closed facts: the types. -/
theorem tE (v : Value) (w : World) : (ReflectliteType.typeOf #[.iface 60 v]).run Try.prog w = .ok (.iface 92 (.agg #[.pointer (some ⟨0, 60, none⟩)])) w := by kernel_rfl
theorem tW (v : Value) (w : World) : (ReflectliteType.typeOf #[.iface 71 v]).run Try.prog w = .ok (.iface 92 (.agg #[.pointer (some ⟨0, 71, none⟩)])) w := by kernel_rfl
theorem cE (w : World) : ((ReflectliteType.method fun t => do Rtype.noPackHeld "Comparable" t; (fun a => Value.bool a.comparable) <$> typeInfo t) #[.agg #[.pointer (some ⟨0, 60, none⟩)]]).run Try.prog w = .ok (.bool true) w := by kernel_rfl
theorem mComparable (v : Value) (w : World) : (Go.method 234 92 v "Comparable").run Try.prog w = .ok (70, v) w := by kernel_rfl
theorem noIsE (v : Value) (xT : TypeId) (w : World) : (Instr.typeAssert (.iface 60 v) xT 94 true).run Try.prog w = .ok (.tuple #[.nilIface, .bool false]) w := run_typeAssert_lacksB Try.underlying94 (by kernel_rfl) (by kernel_rfl) v xT w
theorem noUnE (v : Value) (xT : TypeId) (w : World) : (Instr.typeAssert (.iface 60 v) xT 97 true).run Try.prog w = .ok (.tuple #[.nilIface, .bool false]) w := run_typeAssert_lacksB Try.underlying97 (by kernel_rfl) (by kernel_rfl) v xT w
theorem noUsE (v : Value) (xT : TypeId) (w : World) : (Instr.typeAssert (.iface 60 v) xT 98 true).run Try.prog w = .ok (.tuple #[.nilIface, .bool false]) w := run_typeAssert_lacksB Try.underlying98 (by kernel_rfl) (by kernel_rfl) v xT w
theorem noIsW (v : Value) (xT : TypeId) (w : World) : (Instr.typeAssert (.iface 71 v) xT 94 true).run Try.prog w = .ok (.tuple #[.nilIface, .bool false]) w := run_typeAssert_lacksB Try.underlying94 (by kernel_rfl) (by kernel_rfl) v xT w
theorem hasUnW (v : Value) (xT : TypeId) (w : World) : (Instr.typeAssert (.iface 71 v) xT 97 true).run Try.prog w = .ok (.tuple #[.iface 71 v, .bool true]) w := run_typeAssert_hasB Try.underlying97 (by kernel_rfl) v xT w
theorem mUnwrap (v : Value) (w : World) : (Go.method 234 71 v "Unwrap").run Try.prog w = .ok (66, v) w := by kernel_rfl
theorem compE : (Try.prog.info? 60).map (·.comparable) = some true := by kernel_rfl
def errno (k : Int) : Value := .iface 60 (.int .i64 k)
def wrong (s : ByteArray) (k : Int) : Value := .iface 71 (.agg #[.string s, .int .i64 k])
set_option maxHeartbeats 4000000 in
set_option maxRecDepth 100000 in
theorem unwrap_any (s : ByteArray) (k : Int) (w : World) : Calls Try.prog 66 #[.agg #[.string s, .int .i64 k]] w fun e w' => e = .returned (errno k) ∧ Below w.heap.size w w' := by
  unfold errno
  go_enter Try.func66, Try.ntmps66
  go_wp2
  go_ret
  exact ⟨rfl, (Below.refl _ _).alloc (Nat.le_refl _) _⟩
set_option maxHeartbeats 4000000 in
set_option maxRecDepth 100000 in
theorem isE (k n : Int) (w : World) : Calls Try.prog 46 #[errno k, errno n, .bool true] w fun e w' => e = .returned (.bool (k == n)) ∧ w' = w := by
  unfold errno
  obtain ⟨i, hi, hcmp⟩ := Option.map_eq_some_iff.1 compE
  have nE := noIsE
  have uE := noUnE
  have vE := noUsE
  have nW := noIsW
  have uW := hasUnW
  have mU := mUnwrap
  have heq := fun w => run_eql_iface_int (P := Try.prog) w k n Try.underlying26 Try.underlying60 hi hcmp
  have hb : (k == n) = true ∨ (k == n) = false := by cases (k == n) <;> simp
  rcases hb with hb | hb <;>
  · rw [hb] at heq ⊢
    clear hb
    go_enter Try.func46, Try.ntmps46
    go_wp2
    refine wp_loop_rounds 1 ?_
    rw [rounds_succ]
    go_wp2
    go_ret
    exact ⟨rfl, rfl⟩
set_option maxHeartbeats 4000000 in
set_option maxRecDepth 100000 in
theorem isW (s : ByteArray) (k n : Int) (w : World) : Calls Try.prog 46 #[wrong s k, errno n, .bool true] w fun e w' => e = .returned (.bool (k == n)) ∧ Below w.heap.size w w' := by
  unfold errno wrong
  obtain ⟨i, hi, hcmp⟩ := Option.map_eq_some_iff.1 compE
  have nE := noIsE
  have uE := noUnE
  have vE := noUsE
  have nW := noIsW
  have uW := hasUnW
  have mU := mUnwrap
  have heq := fun w => run_eql_iface_int (P := Try.prog) w k n Try.underlying26 Try.underlying60 hi hcmp
  have hty := run_eql_iface_types (P := Try.prog) 71 60 (.agg #[.string s, .int .i64 k]) (.int .i64 n) Try.underlying26 (by decide) w
  have hb : (k == n) = true ∨ (k == n) = false := by cases (k == n) <;> simp
  rcases hb with hb | hb <;>
  · rw [hb] at heq ⊢
    clear hb
    go_enter Try.func46, Try.ntmps46
    go_wp2
    refine wp_loop_rounds 2 ?_
    rw [rounds_succ]
    go_wp2_with fail
    refine (unwrap_any s k w).mono ?_
    rintro e w1 ⟨rfl, hb1⟩
    have HB1 := Held.mk hb1
    clear hb1
    unfold errno
    go_wp2
    rw [rounds_succ]
    go_wp2
    go_ret
    exact ⟨rfl, HB1.out⟩
set_option maxHeartbeats 4000000 in
set_option maxRecDepth 100000 in
theorem is_errno (k n : Int) (w : World) : Calls Try.prog 37 #[errno k, errno n] w fun e w' => e = .returned (.bool (k == n)) ∧ Below w.heap.size w w' := by
  have h8 := @run_callFunc_extern Try.prog 45 _ ReflectliteType.typeOf Try.func45 (by kernel_rfl) (by kernel_rfl) (by kernel_rfl) (by kernel_rfl)
  have h32 := @run_callFunc_extern Try.prog 70 _ (ReflectliteType.method fun t => do Rtype.noPackHeld "Comparable" t; pure (.bool (← typeInfo t).comparable)) Try.func70 (by kernel_rfl) (by kernel_rfl) (by kernel_rfl) (by kernel_rfl)
  have tT := tE
  have cT := cE
  have mR := mComparable
  have H := isE k n w
  unfold errno at H ⊢
  go_enter Try.func37, Try.ntmps37
  go_wp2_with fail
  refine H.mono ?_
  rintro e w1 ⟨rfl, rfl⟩
  go_wp2
  go_ret
  exact ⟨rfl, Below.refl _ _⟩
set_option maxHeartbeats 4000000 in
set_option maxRecDepth 100000 in
theorem is_wrong (s : ByteArray) (k n : Int) (w : World) : Calls Try.prog 37 #[wrong s k, errno n] w fun e w' => e = .returned (.bool (k == n)) ∧ Below w.heap.size w w' := by
  have h8 := @run_callFunc_extern Try.prog 45 _ ReflectliteType.typeOf Try.func45 (by kernel_rfl) (by kernel_rfl) (by kernel_rfl) (by kernel_rfl)
  have h32 := @run_callFunc_extern Try.prog 70 _ (ReflectliteType.method fun t => do Rtype.noPackHeld "Comparable" t; pure (.bool (← typeInfo t).comparable)) Try.func70 (by kernel_rfl) (by kernel_rfl) (by kernel_rfl) (by kernel_rfl)
  have tT := tE
  have cT := cE
  have mR := mComparable
  have H := isW s k n w
  unfold errno wrong at H ⊢
  go_enter Try.func37, Try.ntmps37
  go_wp2_with fail
  refine H.mono ?_
  rintro e w1 ⟨rfl, hb1⟩
  have HB1 := Held.mk hb1
  clear hb1
  go_wp2
  go_ret
  exact ⟨rfl, HB1.out⟩
end Err
end Go.Proofs.Ytihgmlcmdpmhhaa
