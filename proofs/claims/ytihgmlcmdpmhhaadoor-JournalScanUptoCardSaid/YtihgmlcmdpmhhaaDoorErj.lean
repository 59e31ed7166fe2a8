/- errors.Is and errors.As by their contracts, at this program's errors (a number; a number behind a text): Num, Plain. -/
import Derived.Test.YtihgmlcmdpmhhaaDoorProg
import Derived.Test.YtihgmlcmdpmhhaaDoorApN
import Derived.WalkKit
import Derived.LaidEql
import Derived.Stop.Asserts
import Derived.RowKitTokens
namespace Go
section
variable {P : Program} (w : World)
theorem run_equalIn_iface_int (d : Nat) {ti tn : TypeId} {ms : Array (String × TypeId)} {i : TypeInfo} {k : IntKind} (a b : Int)
    (hi : P.underlying ti = some (.interface ms)) (hn : P.underlying tn = some (.int k)) (hinfo : P.info? tn = some i) (hcomp : i.comparable = true) :
    (Op.equalIn (d + 2) ti (.iface tn (.int k a)) (.iface tn (.int k b))).run P w = .ok (a == b) w := by
  simp [Op.equalIn, run_underlying hi, run_underlying hn, typeInfo, hinfo, hcomp]
theorem run_eql_iface_int {ti tn : TypeId} {ms : Array (String × TypeId)} {i : TypeInfo} {k : IntKind} (a b : Int)
    (hi : P.underlying ti = some (.interface ms)) (hn : P.underlying tn = some (.int k)) (hinfo : P.info? tn = some i) (hcomp : i.comparable = true) :
    (binOp .eql ti (.iface tn (.int k a)) (.iface tn (.int k b))).run P w = .ok (.bool (a == b)) w := by
  simp only [binOp]
  simp [Op.equal, Op.maxDepth, run_equalIn_iface_int w 9998 a b hi hn hinfo hcomp]
end
end Go
namespace Go.Proofs.YtihgmlcmdpmhhaaDoor
set_option linter.unusedVariables false
set_option linter.unusedSimpArgs false
namespace Err
open Go.RowKit Go.Extern.Stop Go.Stop Go.Extern Mem

/-! Closed facts: the types. -/
theorem tE (v : Value) (w : World) : (ReflectliteType.typeOf #[.iface 50 v]).run Tryd.prog w = .ok (.iface 127 (.agg #[.pointer (some ⟨1, 50, none⟩)])) w := by kernel_rfl
theorem tW (v : Value) (w : World) : (ReflectliteType.typeOf #[.iface 100 v]).run Tryd.prog w = .ok (.iface 127 (.agg #[.pointer (some ⟨1, 100, none⟩)])) w := by kernel_rfl
theorem cE (w : World) : ((ReflectliteType.method fun t => do Rtype.noPackHeld "Comparable" t; (fun a => Value.bool a.comparable) <$> typeInfo t) #[.agg #[.pointer (some ⟨1, 50, none⟩)]]).run Tryd.prog w = .ok (.bool true) w := by kernel_rfl
theorem mComparable (v : Value) (w : World) : (Go.method 273 127 v "Comparable").run Tryd.prog w = .ok (108, v) w := by kernel_rfl
theorem noIsE (v : Value) (xT : TypeId) (w : World) : (Instr.typeAssert (.iface 50 v) xT 140 true).run Tryd.prog w = .ok (.tuple #[.nilIface, .bool false]) w := run_typeAssert_lacksB Tryd.underlying140 (by kernel_rfl) (by kernel_rfl) v xT w
theorem noUnE (v : Value) (xT : TypeId) (w : World) : (Instr.typeAssert (.iface 50 v) xT 134 true).run Tryd.prog w = .ok (.tuple #[.nilIface, .bool false]) w := run_typeAssert_lacksB Tryd.underlying134 (by kernel_rfl) (by kernel_rfl) v xT w
theorem noUsE (v : Value) (xT : TypeId) (w : World) : (Instr.typeAssert (.iface 50 v) xT 135 true).run Tryd.prog w = .ok (.tuple #[.nilIface, .bool false]) w := run_typeAssert_lacksB Tryd.underlying135 (by kernel_rfl) (by kernel_rfl) v xT w
theorem noIsW (v : Value) (xT : TypeId) (w : World) : (Instr.typeAssert (.iface 100 v) xT 140 true).run Tryd.prog w = .ok (.tuple #[.nilIface, .bool false]) w := run_typeAssert_lacksB Tryd.underlying140 (by kernel_rfl) (by kernel_rfl) v xT w
theorem hasUnW (v : Value) (xT : TypeId) (w : World) : (Instr.typeAssert (.iface 100 v) xT 134 true).run Tryd.prog w = .ok (.tuple #[.iface 100 v, .bool true]) w := run_typeAssert_hasB Tryd.underlying134 (by kernel_rfl) v xT w
theorem mUnwrap (v : Value) (w : World) : (Go.method 273 100 v "Unwrap").run Tryd.prog w = .ok (102, v) w := by kernel_rfl
theorem compE : (Tryd.prog.info? 50).map (·.comparable) = some true := by kernel_rfl
def errno (k : Int) : Value := .iface 50 (.int .i64 k)
def wrong (s : ByteArray) (k : Int) : Value := .iface 100 (.agg #[.string s, .int .i64 k])
set_option maxHeartbeats 4000000 in
set_option maxRecDepth 100000 in
theorem unwrap_any (s : ByteArray) (k : Int) (w : World) : Calls Tryd.prog 102 #[.agg #[.string s, .int .i64 k]] w fun e w' => e = .returned (errno k) ∧ Below w.heap.size w w' := by
  unfold errno
  go_enter Tryd.func102, Tryd.ntmps102
  go_wp2
  go_ret
  exact ⟨rfl, (Below.refl _ _).alloc (Nat.le_refl _) _⟩
set_option maxHeartbeats 4000000 in
set_option maxRecDepth 100000 in
theorem isE (k n : Int) (w : World) : Calls Tryd.prog 73 #[errno k, errno n, .bool true] w fun e w' => e = .returned (.bool (k == n)) ∧ w' = w := by
  unfold errno
  obtain ⟨i, hi, hcmp⟩ := Option.map_eq_some_iff.1 compE
  have nE := noIsE
  have uE := noUnE
  have vE := noUsE
  have nW := noIsW
  have uW := hasUnW
  have mU := mUnwrap
  have heq := fun w => run_eql_iface_int (P := Tryd.prog) w k n Tryd.underlying28 Tryd.underlying50 hi hcmp
  have hb : (k == n) = true ∨ (k == n) = false := by cases (k == n) <;> simp
  rcases hb with hb | hb <;>
  · rw [hb] at heq ⊢
    clear hb
    go_enter Tryd.func73, Tryd.ntmps73
    go_wp2
    refine wp_loop_rounds 1 ?_
    rw [rounds_succ]
    go_wp2
    go_ret
    exact ⟨rfl, rfl⟩
set_option maxHeartbeats 4000000 in
set_option maxRecDepth 100000 in
theorem isW (s : ByteArray) (k n : Int) (w : World) : Calls Tryd.prog 73 #[wrong s k, errno n, .bool true] w fun e w' => e = .returned (.bool (k == n)) ∧ Below w.heap.size w w' := by
  unfold errno wrong
  obtain ⟨i, hi, hcmp⟩ := Option.map_eq_some_iff.1 compE
  have nE := noIsE
  have uE := noUnE
  have vE := noUsE
  have nW := noIsW
  have uW := hasUnW
  have mU := mUnwrap
  have heq := fun w => run_eql_iface_int (P := Tryd.prog) w k n Tryd.underlying28 Tryd.underlying50 hi hcmp
  have hty := run_eql_iface_types (P := Tryd.prog) 100 50 (.agg #[.string s, .int .i64 k]) (.int .i64 n) Tryd.underlying28 (by decide) w
  have hb : (k == n) = true ∨ (k == n) = false := by cases (k == n) <;> simp
  rcases hb with hb | hb <;>
  · rw [hb] at heq ⊢
    clear hb
    go_enter Tryd.func73, Tryd.ntmps73
    go_wp2
    refine wp_loop_rounds 2 ?_
    rw [rounds_succ]
    go_wp2_with fail
    refine (unwrap_any s k w).mono ?_
    rintro e w1 ⟨rfl, hb1⟩
    have HB1 := Held.mk hb1
    clear hb1
    unfold errno
    go_wp2
    rw [rounds_succ]
    go_wp2
    go_ret
    exact ⟨rfl, HB1.out⟩
set_option maxHeartbeats 4000000 in
set_option maxRecDepth 100000 in
theorem is_errno (k n : Int) (w : World) : Calls Tryd.prog 55 #[errno k, errno n] w fun e w' => e = .returned (.bool (k == n)) ∧ Below w.heap.size w w' := by
  have h8 := @run_callFunc_extern Tryd.prog 72 _ ReflectliteType.typeOf Tryd.func72 (by kernel_rfl) (by kernel_rfl) (by kernel_rfl) (by kernel_rfl)
  have h32 := @run_callFunc_extern Tryd.prog 108 _ (ReflectliteType.method fun t => do Rtype.noPackHeld "Comparable" t; pure (.bool (← typeInfo t).comparable)) Tryd.func108 (by kernel_rfl) (by kernel_rfl) (by kernel_rfl) (by kernel_rfl)
  have tT := tE
  have cT := cE
  have mR := mComparable
  have H := isE k n w
  unfold errno at H ⊢
  go_enter Tryd.func55, Tryd.ntmps55
  go_wp2_with fail
  refine H.mono ?_
  rintro e w1 ⟨rfl, rfl⟩
  go_wp2
  go_ret
  exact ⟨rfl, Below.refl _ _⟩
set_option maxHeartbeats 4000000 in
set_option maxRecDepth 100000 in
theorem is_wrong (s : ByteArray) (k n : Int) (w : World) : Calls Tryd.prog 55 #[wrong s k, errno n] w fun e w' => e = .returned (.bool (k == n)) ∧ Below w.heap.size w w' := by
  have h8 := @run_callFunc_extern Tryd.prog 72 _ ReflectliteType.typeOf Tryd.func72 (by kernel_rfl) (by kernel_rfl) (by kernel_rfl) (by kernel_rfl)
  have h32 := @run_callFunc_extern Tryd.prog 108 _ (ReflectliteType.method fun t => do Rtype.noPackHeld "Comparable" t; pure (.bool (← typeInfo t).comparable)) Tryd.func108 (by kernel_rfl) (by kernel_rfl) (by kernel_rfl) (by kernel_rfl)
  have tT := tE
  have cT := cE
  have mR := mComparable
  have H := isW s k n w
  unfold errno wrong at H ⊢
  go_enter Tryd.func55, Tryd.ntmps55
  go_wp2_with fail
  refine H.mono ?_
  rintro e w1 ⟨rfl, hb1⟩
  have HB1 := Held.mk hb1
  clear hb1
  go_wp2
  go_ret
  exact ⟨rfl, HB1.out⟩
end Err
end Go.Proofs.YtihgmlcmdpmhhaaDoor
/- errors.As at this program's errors, the target a Fault: it is none. Num and Plain of the law's kit. -/
namespace Go.Proofs.YtihgmlcmdpmhhaaDoor
set_option linter.unusedVariables false
set_option linter.unusedSimpArgs false
namespace Err
open Go.RowKit Go.Extern.Stop Go.Stop Go.Extern Mem

theorem vPF (t : Addr) (w : World) : (ReflectliteValue.unpack (.iface 57 (.pointer (some t)))).run Tryd.prog w
    = .ok (.agg #[.pointer (some ⟨1, 57, none⟩), .pointer (some ⟨w.heap.size, 0, none⟩), .int .u64 150]) (w.alloc (.cells #[.pointer (some t)] 57)) := by kernel_rfl
theorem tyPF (a : Addr) (w : World) : (ReflectliteValue.methodAny (ReflectliteValue.valueError "reflectlite.Value.Type" 0) (fun t _ _ _ => ReflectliteType.toType t) #[.agg #[.pointer (some ⟨1, 57, none⟩), .pointer (some a), .int .u64 150]]).run Tryd.prog w
    = .ok (.iface 127 (.agg #[.pointer (some ⟨1, 57, none⟩)])) w := by kernel_rfl
theorem mKind (h : Value) (w : World) : (Go.method 273 127 (.agg #[h]) "Kind").run Tryd.prog w = .ok (92, h) w := by kernel_rfl
theorem kPF (w : World) : ((ReflectliteType.abiMethod fun t => (fun a : Nat => Value.int IntKind.u8 (a : Int)) <$> Rtype.kind t) #[.pointer (some ⟨1, 57, none⟩)]).run Tryd.prog w = .ok (.int .u8 22) w := by kernel_rfl
theorem kF (w : World) : ((ReflectliteType.abiMethod fun t => (fun a : Nat => Value.int IntKind.u8 (a : Int)) <$> Rtype.kind t) #[.pointer (some ⟨1, 54, none⟩)]).run Tryd.prog w = .ok (.int .u8 25) w := by kernel_rfl
theorem rlm (z : Sem Value) (f : TypeId → Addr → Nat → Nat → Sem Value) (v : Value) :
    ReflectliteValue.method z f #[v] = (do match ← ReflectliteValue.parts v with | none => z | some (t, a, fl) => f t a fl (fl % 32)) := rfl
theorem partsPF (a : Addr) (w : World) : (ReflectliteValue.parts (.agg #[.pointer (some ⟨1, 57, none⟩), .pointer (some a), .int .u64 150])).run Tryd.prog w = .ok (some (57, a, 150)) w := by kernel_rfl
theorem isNilPF (a p : Addr) (W : World) (ha : W.cell? a = some (.pointer (some p))) :
    (ReflectliteValue.method (ReflectliteValue.valueError "reflectlite.Value.IsNil" 0) ReflectliteValue.isNil #[.agg #[.pointer (some ⟨1, 57, none⟩), .pointer (some a), .int .u64 150]]).run Tryd.prog W = .ok (.bool false) W := by
  rw [rlm]
  simp only [Sem.run_bind, partsPF, Result.andThen]
  simp [ReflectliteValue.isNil, loadVar, isAgg, underlying, Tryd.underlying57, ha, Result.andThen]
theorem mElem (h : Value) (w : World) : (Go.method 273 127 (.agg #[h]) "Elem").run Tryd.prog w = .ok (109, .agg #[h]) w := by kernel_rfl
theorem mImplements (h : Value) (w : World) : (Go.method 273 127 (.agg #[h]) "Implements").run Tryd.prog w = .ok (110, .agg #[h]) w := by kernel_rfl
theorem mAssignable (h : Value) (w : World) : (Go.method 273 127 (.agg #[h]) "AssignableTo").run Tryd.prog w = .ok (107, .agg #[h]) w := by kernel_rfl
theorem elPF (w : World) : (ReflectliteType.method ReflectliteType.elem #[.agg #[.pointer (some ⟨1, 57, none⟩)]]).run Tryd.prog w = .ok (.iface 127 (.agg #[.pointer (some ⟨1, 54, none⟩)])) w := by kernel_rfl
theorem impF (w : World) : (ReflectliteType.relation "Implements" ReflectliteType.implements_ #[.agg #[.pointer (some ⟨1, 54, none⟩)], .iface 127 (.agg #[.pointer (some ⟨1, 28, none⟩)])]).run Tryd.prog w = .ok (.bool true) w := by kernel_rfl
theorem asgE (w : World) : (ReflectliteType.relation "AssignableTo" ReflectliteType.assignableTo #[.agg #[.pointer (some ⟨1, 50, none⟩)], .iface 127 (.agg #[.pointer (some ⟨1, 54, none⟩)])]).run Tryd.prog w = .ok (.bool false) w := by kernel_rfl
theorem asgW (w : World) : (ReflectliteType.relation "AssignableTo" ReflectliteType.assignableTo #[.agg #[.pointer (some ⟨1, 100, none⟩)], .iface 127 (.agg #[.pointer (some ⟨1, 54, none⟩)])]).run Tryd.prog w = .ok (.bool false) w := by kernel_rfl
theorem noAsE (v : Value) (xT : TypeId) (w : World) : (Instr.typeAssert (.iface 50 v) xT 131 true).run Tryd.prog w = .ok (.tuple #[.nilIface, .bool false]) w := run_typeAssert_lacksB Tryd.underlying131 (by kernel_rfl) (by kernel_rfl) v xT w
theorem noAsW (v : Value) (xT : TypeId) (w : World) : (Instr.typeAssert (.iface 100 v) xT 131 true).run Tryd.prog w = .ok (.tuple #[.nilIface, .bool false]) w := run_typeAssert_lacksB Tryd.underlying131 (by kernel_rfl) (by kernel_rfl) v xT w
/-- The variable errors.errorType as the program's text lays it. -/
def Laid (w : World) : Prop := w.cell? ⟨0, 0, none⟩ = some (.iface 127 (.agg #[.pointer (some ⟨1, 28, none⟩)]))
theorem Laid.lt {w : World} (h : Laid w) : 0 < w.heap.size := World.block_lt_of_cell? w _ h
theorem Laid.below {w w' : World} (h : Laid w) (hb : Below w.heap.size w w') : Laid w' := (hb.cell (p := ⟨0, 0, none⟩) h.lt).trans h
set_option maxHeartbeats 4000000 in
set_option maxRecDepth 100000 in
theorem asE (k : Int) (t : Addr) (a b c : Value) (w : World) : Calls Tryd.prog 59 #[errno k, .iface 57 (.pointer (some t)), .agg #[a, b, c], .iface 127 (.agg #[.pointer (some ⟨1, 54, none⟩)])] w fun e w' => e = .returned (.bool false) ∧ Below w.heap.size w w' := by
  unfold errno
  have h10 := @run_callFunc_extern Tryd.prog 72 _ ReflectliteType.typeOf Tryd.func72 (by kernel_rfl) (by kernel_rfl) (by kernel_rfl) (by kernel_rfl)
  have h35 := @run_callFunc_extern Tryd.prog 107 _ (ReflectliteType.relation "AssignableTo" ReflectliteType.assignableTo) Tryd.func107 (by kernel_rfl) (by kernel_rfl) (by kernel_rfl) (by kernel_rfl)
  have tT := tE
  have mA := mAssignable
  have aE := asgE
  have nA := noAsE
  have uE := noUnE
  have vE := noUsE
  go_enter Tryd.func59, Tryd.ntmps59
  go_wp2
  refine wp_loop_rounds 1 ?_
  rw [rounds_succ]
  go_wp2
  go_ret
  exact ⟨rfl, (Below.refl _ _).alloc (Nat.le_refl _) _⟩
set_option maxHeartbeats 4000000 in
set_option maxRecDepth 100000 in
theorem asW (s : ByteArray) (k : Int) (t : Addr) (a b c : Value) (w : World) : Calls Tryd.prog 59 #[wrong s k, .iface 57 (.pointer (some t)), .agg #[a, b, c], .iface 127 (.agg #[.pointer (some ⟨1, 54, none⟩)])] w fun e w' => e = .returned (.bool false) ∧ Below w.heap.size w w' := by
  unfold wrong
  have h10 := @run_callFunc_extern Tryd.prog 72 _ ReflectliteType.typeOf Tryd.func72 (by kernel_rfl) (by kernel_rfl) (by kernel_rfl) (by kernel_rfl)
  have h35 := @run_callFunc_extern Tryd.prog 107 _ (ReflectliteType.relation "AssignableTo" ReflectliteType.assignableTo) Tryd.func107 (by kernel_rfl) (by kernel_rfl) (by kernel_rfl) (by kernel_rfl)
  have tT := tE
  have tW' := tW
  have mA := mAssignable
  have aE := asgE
  have aW := asgW
  have nA := noAsE
  have nW := noAsW
  have uE := noUnE
  have vE := noUsE
  have uW := hasUnW
  have mU := mUnwrap
  have HB0 : Held (Below w.heap.size w (w.alloc (.cells #[a, b, c] 105))) := ⟨(Below.refl _ _).alloc (Nat.le_refl _) _⟩
  go_enter Tryd.func59, Tryd.ntmps59
  go_wp2
  refine wp_loop_rounds 2 ?_
  rw [rounds_succ]
  go_wp2_with fail
  refine (unwrap_any s k _).mono ?_
  rintro e w1 ⟨rfl, hb1⟩
  have HB1 : Held (Below w.heap.size w w1) := ⟨HB0.out.trans (hb1.mono HB0.out.size)⟩
  clear hb1
  unfold errno
  go_wp2
  rw [rounds_succ]
  go_wp2
  go_ret
  exact ⟨rfl, HB1.out⟩
end Err
end Go.Proofs.YtihgmlcmdpmhhaaDoor
/- errors.As, Num and Plain, by contracts. -/
namespace Go.Proofs.YtihgmlcmdpmhhaaDoor
set_option linter.unusedVariables false
set_option linter.unusedSimpArgs false
namespace Err
open Go.RowKit Go.Extern.Stop Go.Stop Go.Extern Mem

/-- An error of this program that is no Fault: e, its number k. -/
structure IsErr (e : Value) (k : Int) : Prop where
  shape : ∃ T v, e = .iface T v
  eq_ : ∀ (n : Int) (w : World), Calls Tryd.prog 55 #[e, errno n] w fun r w' => r = .returned (.bool (k == n)) ∧ Below w.heap.size w w'
  un_ : ∀ (t : Addr) (a b c : Value) (w : World), Calls Tryd.prog 59 #[e, .iface 57 (.pointer (some t)), .agg #[a, b, c], .iface 127 (.agg #[.pointer (some ⟨1, 54, none⟩)])] w fun r w' => r = .returned (.bool false) ∧ Below w.heap.size w w'
theorem isErr_errno (k : Int) : IsErr (errno k) k := ⟨⟨_, _, rfl⟩, fun n w => is_errno k n w, fun t a b c w => asE k t a b c w⟩
theorem isErr_wrong (s : ByteArray) (k : Int) : IsErr (wrong s k) k := ⟨⟨_, _, rfl⟩, fun n w => is_wrong s k n w, fun t a b c w => asW s k t a b c w⟩
set_option maxHeartbeats 4000000 in
set_option maxRecDepth 100000 in
theorem as_any (T : TypeId) (v : Value) (k : Int) (t : Addr) (w : World) (he : IsErr (.iface T v) k) (hg : Laid w) : Calls Tryd.prog 22 #[.iface T v, .iface 57 (.pointer (some t))] w fun e w' => e = .returned (.bool false) ∧ Below w.heap.size w w' := by
  have HE := Held.mk he
  have h6 := @run_callFunc_extern Tryd.prog 56 _ (fun args => ReflectliteValue.unpack (args.getD 0 (.tuple #[]))) Tryd.func56 (by kernel_rfl) (by kernel_rfl) (by kernel_rfl) (by kernel_rfl)
  have h7 := @run_callFunc_extern Tryd.prog 57 _ (ReflectliteValue.methodAny (ReflectliteValue.valueError "reflectlite.Value.Type" 0) (fun t _ _ _ => ReflectliteType.toType t)) Tryd.func57 (by kernel_rfl) (by kernel_rfl) (by kernel_rfl) (by kernel_rfl)
  have h8 := @run_callFunc_extern Tryd.prog 58 _ (ReflectliteValue.method (ReflectliteValue.valueError "reflectlite.Value.IsNil" 0) ReflectliteValue.isNil) Tryd.func58 (by kernel_rfl) (by kernel_rfl) (by kernel_rfl) (by kernel_rfl)
  have h27 := @run_callFunc_extern Tryd.prog 92 _ (ReflectliteType.abiMethod fun t => do pure (.int .u8 (← Rtype.kind t))) Tryd.func92 (by kernel_rfl) (by kernel_rfl) (by kernel_rfl) (by kernel_rfl)
  have h37 := @run_callFunc_extern Tryd.prog 109 _ (ReflectliteType.method ReflectliteType.elem) Tryd.func109 (by kernel_rfl) (by kernel_rfl) (by kernel_rfl) (by kernel_rfl)
  have h38 := @run_callFunc_extern Tryd.prog 110 _ (ReflectliteType.relation "Implements" ReflectliteType.implements_) Tryd.func110 (by kernel_rfl) (by kernel_rfl) (by kernel_rfl) (by kernel_rfl)
  have f6 := vPF
  have f7 := tyPF
  have mK := mKind
  have mE := mElem
  have mI := mImplements
  have k27 := kPF
  have k25 := kF
  have e27 := elPF
  have i25 := impF
  have n8 := isNilPF ⟨w.heap.size, 0, none⟩ t ((w.alloc (.cells #[.pointer (some t)] 57)).alloc (.cells #[.pointer (some ⟨1, 57, none⟩), .pointer (some ⟨w.heap.size, 0, none⟩), .int .u64 150] 105)) (by simp)
  have hlt := hg.lt
  have HB : Held (Below w.heap.size w ((w.alloc (.cells #[.pointer (some t)] 57)).alloc (.cells #[.pointer (some ⟨1, 57, none⟩), .pointer (some ⟨w.heap.size, 0, none⟩), .int .u64 150] 105))) := ⟨((Below.refl _ _).alloc (Nat.le_refl _) _).alloc (by simp) _⟩
  have hg2 : ((w.alloc (.cells #[.pointer (some t)] 57)).alloc (.cells #[.pointer (some ⟨1, 57, none⟩), .pointer (some ⟨w.heap.size, 0, none⟩), .int .u64 150] 105)).cell? ⟨0, 0, none⟩ = some (.iface 127 (.agg #[.pointer (some ⟨1, 28, none⟩)])) := hg.below HB.out
  clear he
  go_enter Tryd.func22, Tryd.ntmps22
  go_wp2_with fail
  refine (HE.out.un_ t _ _ _ _).mono ?_
  rintro e w1 ⟨rfl, hb1⟩
  have HB1 : Held (Below w.heap.size w w1) := ⟨HB.out.trans (hb1.mono HB.out.size)⟩
  clear hb1
  go_wp2
  go_ret
  exact ⟨rfl, HB1.out⟩
/-- What Num has found below n: k, if it was there. -/
def fnd (k n : Int) : Int := if 1 ≤ k ∧ k < n then k else 0
set_option maxHeartbeats 4000000 in
set_option maxRecDepth 100000 in
theorem num_any (T : TypeId) (v : Value) (k : Int) (w : World) (he : IsErr (.iface T v) k) (hk1 : 1 ≤ k) (hk2 : k ≤ 24) : Calls Tryd.prog 21 #[.iface T v] w fun e w' => e = .returned (.int .i64 k) ∧ Below w.heap.size w w' := by
  have HE := Held.mk he
  clear he
  go_enter Tryd.func21, Tryd.ntmps21
  go_wp2
  go_loopw [3, 4] (fun u i wr => ∃ n : Int, i = .int .i64 n ∧ u = .int .i64 (fnd k n) ∧ 1 ≤ n ∧ n ≤ 25 ∧ Held (Below w.heap.size w wr)) (fun _ i _ => (25 - intOf i).toNat)
  case atStart => exact ⟨1, rfl, by unfold fnd; rw [if_neg (by omega)], by omega, by omega, ⟨Below.refl _ _⟩⟩
  case round =>
    obtain ⟨n, rfl, rfl, hn1, hn2, HB⟩ := hrel
    by_cases hlt : n ≤ 24
    · have hE := fun m w => HE.out.eq_ m w
      unfold errno at hE
      go_wp2_with fail
      refine (hE n wr).mono ?_
      rintro e w1 ⟨rfl, hb1⟩
      have HB1 : Held (Below w.heap.size w w1) := ⟨HB.out.trans (hb1.mono HB.out.size)⟩
      clear hb1 hE
      by_cases hkn : k = n
      · subst hkn
        have h0 : fnd k k = 0 := by unfold fnd; rw [if_neg (by omega)]
        have h1 : fnd k (k + 1) = k := by unfold fnd; rw [if_pos (by omega)]
        rw [h0, show (k == k) = true from by simp]
        have H1 := Held.mk h1
        clear h0 h1
        go_wp2
        go_roundw
        case rel => exact ⟨k + 1, by go_num, by rw [H1.out], by omega, by omega, HB1⟩
        case measure => simp [intOf]; omega
      · have h1 : fnd k (n + 1) = fnd k n := by unfold fnd; (repeat' split) <;> omega
        rw [show (k == n) = false from beq_eq_false_iff_ne.2 hkn]
        have H1 := Held.mk h1
        clear h1 hkn
        generalize fnd k n = fk at *
        go_wp2
        go_roundw
        case rel => exact ⟨n + 1, by go_num, by rw [H1.out], by omega, by omega, HB1⟩
        case measure => simp [intOf]; omega
    · obtain rfl : n = 25 := by omega
      have h1 : fnd k 25 = k := by unfold fnd; rw [if_pos (by omega)]
      rw [h1]
      have hk0 : (k == 0) = false := beq_eq_false_iff_ne.2 (by omega)
      have hE := fun m w => HE.out.eq_ m w
      unfold errno at hE
      clear h1
      go_wp2_with fail
      refine (hE 0 wr).mono ?_
      rintro e w1 ⟨rfl, hb1⟩
      have HB1 : Held (Below w.heap.size w w1) := ⟨HB.out.trans (hb1.mono HB.out.size)⟩
      clear hb1 hE
      rw [hk0]
      go_wp2
      go_ret
      exact ⟨rfl, HB1.out⟩
set_option maxHeartbeats 4000000 in
set_option maxRecDepth 100000 in
theorem num_nil (w : World) : Calls Tryd.prog 21 #[.nilIface] w fun e w' => e = .returned (.int .i64 0) ∧ w' = w := by
  go_enter Tryd.func21, Tryd.ntmps21
  go_wp2
  go_ret
  exact ⟨rfl, rfl⟩
set_option maxHeartbeats 4000000 in
set_option maxRecDepth 100000 in
theorem plain_err (T : TypeId) (v : Value) (k n : Int) (w : World) (he : IsErr (.iface T v) k) (hk1 : 1 ≤ k) (hk2 : k ≤ 24) (hg : Laid w) : Calls Tryd.prog 9 #[.iface T v, .int .i64 n] w fun e w' => e = .returned (.bool (k == n)) ∧ Below w.heap.size w w' := by
  have HE := Held.mk he
  have HB0 : Held (Below w.heap.size w (w.alloc (.cells #[.int .i64 0, .int .i64 0, .int .i64 0] 54))) := ⟨(Below.refl _ _).alloc (Nat.le_refl _) _⟩
  have HG := Held.mk (hg.below HB0.out)
  clear he hg
  go_enter Tryd.func9, Tryd.ntmps9
  go_wp2_with fail
  generalize w.alloc (.cells #[.int .i64 0, .int .i64 0, .int .i64 0] 54) = wA at *
  refine (num_any T v k wA HE.out hk1 hk2).mono ?_
  rintro e w1 ⟨rfl, hb1⟩
  have HB1 : Held (Below w.heap.size w w1) := ⟨HB0.out.trans (hb1.mono HB0.out.size)⟩
  have HG1 := Held.mk (HG.out.below hb1)
  clear hb1
  have hb : (k == n) = true ∨ (k == n) = false := by cases (k == n) <;> simp
  rcases hb with hb | hb
  · have HQ := Held.mk hb
    go_wp2_with fail
    refine (as_any T v k _ w1 HE.out HG1.out).mono ?_
    rintro e w2 ⟨rfl, hb2⟩
    have HB2 : Held (Below w.heap.size w w2) := ⟨HB1.out.trans (hb2.mono HB1.out.size)⟩
    clear hb2
    go_wp2
    go_ret
    exact ⟨by rw [HQ.out]; rfl, HB2.out⟩
  · have HQ := Held.mk hb
    go_wp2
    go_ret
    exact ⟨by rw [HQ.out]; rfl, HB1.out⟩
set_option maxHeartbeats 4000000 in
set_option maxRecDepth 100000 in
theorem plain_nil (n : Int) (w : World) : Calls Tryd.prog 9 #[.nilIface, .int .i64 n] w fun e w' => e = .returned (.bool (0 == n)) ∧ Below w.heap.size w w' := by
  have HB0 : Held (Below w.heap.size w (w.alloc (.cells #[.int .i64 0, .int .i64 0, .int .i64 0] 54))) := ⟨(Below.refl _ _).alloc (Nat.le_refl _) _⟩
  go_enter Tryd.func9, Tryd.ntmps9
  go_wp2_with fail
  generalize w.alloc (.cells #[.int .i64 0, .int .i64 0, .int .i64 0] 54) = wA at *
  refine (num_nil wA).mono ?_
  rintro e w1 ⟨rfl, rfl⟩
  have hb : ((0 : Int) == n) = true ∨ ((0 : Int) == n) = false := by cases ((0 : Int) == n) <;> simp
  rcases hb with hb | hb
  · have HQ := Held.mk hb
    go_wp2
    go_ret
    exact ⟨by rw [HQ.out]; rfl, HB0.out⟩
  · have HQ := Held.mk hb
    go_wp2
    go_ret
    exact ⟨by rw [HQ.out]; rfl, HB0.out⟩
end Err
end Go.Proofs.YtihgmlcmdpmhhaaDoor
/- errors.Is and errors.As at the journal's errors. -/
namespace Go.Proofs.YtihgmlcmdpmhhaaDoor
set_option linter.unusedVariables false
set_option linter.unusedSimpArgs false
namespace ErJ
open Go.RowKit Go.Extern.Stop Go.Stop Go.Extern Mem Err
theorem tW (v : Value) (w : World) : (ReflectliteType.typeOf #[.iface 52 v]).run Tryd.prog w = .ok (.iface 127 (.agg #[.pointer (some ⟨1, 52, none⟩)])) w := by kernel_rfl
theorem noIsW (v : Value) (xT : TypeId) (w : World) : (Instr.typeAssert (.iface 52 v) xT 140 true).run Tryd.prog w = .ok (.tuple #[.nilIface, .bool false]) w := run_typeAssert_lacksB Tryd.underlying140 (by kernel_rfl) (by kernel_rfl) v xT w
theorem hasUnW (v : Value) (xT : TypeId) (w : World) : (Instr.typeAssert (.iface 52 v) xT 134 true).run Tryd.prog w = .ok (.tuple #[.iface 52 v, .bool true]) w := run_typeAssert_hasB Tryd.underlying134 (by kernel_rfl) v xT w
theorem mUnwrap (v : Value) (w : World) : (Go.method 273 52 v "Unwrap").run Tryd.prog w = .ok (97, v) w := by kernel_rfl
def wrong (s : ByteArray) (k : Int) : Value := .iface 52 (.agg #[.string s, .int .i64 k])
set_option maxHeartbeats 4000000 in
set_option maxRecDepth 100000 in
theorem unwrap_any (s : ByteArray) (k : Int) (w : World) : Calls Tryd.prog 97 #[.agg #[.string s, .int .i64 k]] w fun e w' => e = .returned (errno k) ∧ Below w.heap.size w w' := by
  unfold errno
  go_enter Tryd.func97, Tryd.ntmps97
  go_wp2
  go_ret
  exact ⟨rfl, (Below.refl _ _).alloc (Nat.le_refl _) _⟩
set_option maxHeartbeats 4000000 in
set_option maxRecDepth 100000 in
theorem isW (s : ByteArray) (k n : Int) (w : World) : Calls Tryd.prog 73 #[wrong s k, errno n, .bool true] w fun e w' => e = .returned (.bool (k == n)) ∧ Below w.heap.size w w' := by
  unfold errno wrong
  obtain ⟨i, hi, hcmp⟩ := Option.map_eq_some_iff.1 compE
  have nE := noIsE
  have uE := noUnE
  have vE := noUsE
  have nW := noIsW
  have uW := hasUnW
  have mU := mUnwrap
  have heq := fun w => run_eql_iface_int (P := Tryd.prog) w k n Tryd.underlying28 Tryd.underlying50 hi hcmp
  have hty := run_eql_iface_types (P := Tryd.prog) 52 50 (.agg #[.string s, .int .i64 k]) (.int .i64 n) Tryd.underlying28 (by decide) w
  have hb : (k == n) = true ∨ (k == n) = false := by cases (k == n) <;> simp
  rcases hb with hb | hb <;>
  · rw [hb] at heq ⊢
    clear hb
    go_enter Tryd.func73, Tryd.ntmps73
    go_wp2
    refine wp_loop_rounds 2 ?_
    rw [rounds_succ]
    go_wp2_with fail
    refine (unwrap_any s k w).mono ?_
    rintro e w1 ⟨rfl, hb1⟩
    have HB1 := Held.mk hb1
    clear hb1
    unfold errno
    go_wp2
    rw [rounds_succ]
    go_wp2
    go_ret
    exact ⟨rfl, HB1.out⟩
set_option maxHeartbeats 4000000 in
set_option maxRecDepth 100000 in
theorem is_wrong (s : ByteArray) (k n : Int) (w : World) : Calls Tryd.prog 55 #[wrong s k, errno n] w fun e w' => e = .returned (.bool (k == n)) ∧ Below w.heap.size w w' := by
  have h8 := @run_callFunc_extern Tryd.prog 72 _ ReflectliteType.typeOf Tryd.func72 (by kernel_rfl) (by kernel_rfl) (by kernel_rfl) (by kernel_rfl)
  have h32 := @run_callFunc_extern Tryd.prog 108 _ (ReflectliteType.method fun t => do Rtype.noPackHeld "Comparable" t; pure (.bool (← typeInfo t).comparable)) Tryd.func108 (by kernel_rfl) (by kernel_rfl) (by kernel_rfl) (by kernel_rfl)
  have tT := tE
  have cT := cE
  have mR := mComparable
  have H := isW s k n w
  unfold errno wrong at H ⊢
  go_enter Tryd.func55, Tryd.ntmps55
  go_wp2_with fail
  refine H.mono ?_
  rintro e w1 ⟨rfl, hb1⟩
  have HB1 := Held.mk hb1
  clear hb1
  go_wp2
  go_ret
  exact ⟨rfl, HB1.out⟩
theorem asgW (w : World) : (ReflectliteType.relation "AssignableTo" ReflectliteType.assignableTo #[.agg #[.pointer (some ⟨1, 52, none⟩)], .iface 127 (.agg #[.pointer (some ⟨1, 54, none⟩)])]).run Tryd.prog w = .ok (.bool false) w := by kernel_rfl
theorem noAsW (v : Value) (xT : TypeId) (w : World) : (Instr.typeAssert (.iface 52 v) xT 131 true).run Tryd.prog w = .ok (.tuple #[.nilIface, .bool false]) w := run_typeAssert_lacksB Tryd.underlying131 (by kernel_rfl) (by kernel_rfl) v xT w
set_option maxHeartbeats 4000000 in
set_option maxRecDepth 100000 in
theorem asW (s : ByteArray) (k : Int) (t : Addr) (a b c : Value) (w : World) : Calls Tryd.prog 59 #[wrong s k, .iface 57 (.pointer (some t)), .agg #[a, b, c], .iface 127 (.agg #[.pointer (some ⟨1, 54, none⟩)])] w fun e w' => e = .returned (.bool false) ∧ Below w.heap.size w w' := by
  unfold wrong
  have h10 := @run_callFunc_extern Tryd.prog 72 _ ReflectliteType.typeOf Tryd.func72 (by kernel_rfl) (by kernel_rfl) (by kernel_rfl) (by kernel_rfl)
  have h35 := @run_callFunc_extern Tryd.prog 107 _ (ReflectliteType.relation "AssignableTo" ReflectliteType.assignableTo) Tryd.func107 (by kernel_rfl) (by kernel_rfl) (by kernel_rfl) (by kernel_rfl)
  have tT := tE
  have tW' := tW
  have mA := mAssignable
  have aE := asgE
  have aW := asgW
  have nA := noAsE
  have nW := noAsW
  have uE := noUnE
  have vE := noUsE
  have uW := hasUnW
  have mU := mUnwrap
  have HB0 : Held (Below w.heap.size w (w.alloc (.cells #[a, b, c] 105))) := ⟨(Below.refl _ _).alloc (Nat.le_refl _) _⟩
  go_enter Tryd.func59, Tryd.ntmps59
  go_wp2
  refine wp_loop_rounds 2 ?_
  rw [rounds_succ]
  go_wp2_with fail
  refine (unwrap_any s k _).mono ?_
  rintro e w1 ⟨rfl, hb1⟩
  have HB1 : Held (Below w.heap.size w w1) := ⟨HB0.out.trans (hb1.mono HB0.out.size)⟩
  clear hb1
  unfold errno
  go_wp2
  rw [rounds_succ]
  go_wp2
  go_ret
  exact ⟨rfl, HB1.out⟩
theorem isErr_wrong (s : ByteArray) (k : Int) : IsErr (wrong s k) k := ⟨⟨_, _, rfl⟩, fun n w => is_wrong s k n w, fun t a b c w => asW s k t a b c w⟩
end ErJ
end Go.Proofs.YtihgmlcmdpmhhaaDoor
