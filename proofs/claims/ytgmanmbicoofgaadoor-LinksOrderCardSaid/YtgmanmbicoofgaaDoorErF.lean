/- errors.Is and Num at a Fault. -/
import Derived.Test.YtgmanmbicoofgaaDoorErP
namespace Go.Proofs.YtgmanmbicoofgaaDoor
set_option linter.unusedVariables false
set_option linter.unusedSimpArgs false
namespace Err
open Go.RowKit Go.Extern.Stop Go.Stop Go.Extern Mem
def fault (k l a : Int) : Value := .iface 93 (.agg #[.int .i64 k, .int .i64 l, .int .i64 a])
theorem tF (v : Value) (w : World) : (ReflectliteType.typeOf #[.iface 93 v]).run Tryd.prog w = .ok (.iface 141 (.agg #[.pointer (some ⟨1, 93, none⟩)])) w := by kernel_rfl
theorem noIsF (v : Value) (xT : TypeId) (w : World) : (Instr.typeAssert (.iface 93 v) xT 167 true).run Tryd.prog w = .ok (.tuple #[.nilIface, .bool false]) w := run_typeAssert_lacksB Tryd.underlying167 (by kernel_rfl) (by kernel_rfl) v xT w
theorem hasUnF (v : Value) (xT : TypeId) (w : World) : (Instr.typeAssert (.iface 93 v) xT 148 true).run Tryd.prog w = .ok (.tuple #[.iface 93 v, .bool true]) w := run_typeAssert_hasB Tryd.underlying148 (by kernel_rfl) v xT w
theorem mUnwrapF (v : Value) (w : World) : (Go.method 310 93 v "Unwrap").run Tryd.prog w = .ok (130, v) w := by kernel_rfl
set_option maxHeartbeats 4000000 in
set_option maxRecDepth 100000 in
theorem unwrapF_any (k l a : Int) (w : World) : Calls Tryd.prog 130 #[.agg #[.int .i64 k, .int .i64 l, .int .i64 a]] w fun e w' => e = .returned (errno k) ∧ Below w.heap.size w w' := by
  unfold errno
  go_enter Tryd.func130, Tryd.ntmps130
  go_wp2
  go_ret
  exact ⟨rfl, (Below.refl _ _).alloc (Nat.le_refl _) _⟩
set_option maxHeartbeats 4000000 in
set_option maxRecDepth 100000 in
theorem isF (k l a n : Int) (w : World) : Calls Tryd.prog 86 #[fault k l a, errno n, .bool true] w fun e w' => e = .returned (.bool (k == n)) ∧ Below w.heap.size w w' := by
  unfold errno fault
  obtain ⟨i, hi, hcmp⟩ := Option.map_eq_some_iff.1 compE
  have nE := noIsE
  have uE := noUnE
  have vE := noUsE
  have nW := noIsF
  have uW := hasUnF
  have mU := mUnwrapF
  have heq := fun w => run_eql_iface_int (P := Tryd.prog) w k n Tryd.underlying28 Tryd.underlying85 hi hcmp
  have hty := run_eql_iface_types (P := Tryd.prog) 93 85 (.agg #[.int .i64 k, .int .i64 l, .int .i64 a]) (.int .i64 n) Tryd.underlying28 (by decide) w
  have hb : (k == n) = true ∨ (k == n) = false := by cases (k == n) <;> simp
  rcases hb with hb | hb <;>
  · rw [hb] at heq ⊢
    clear hb
    go_enter Tryd.func86, Tryd.ntmps86
    go_wp2
    refine wp_loop_rounds 2 ?_
    rw [rounds_succ]
    go_wp2_with fail
    refine (unwrapF_any k l a w).mono ?_
    rintro e w1 ⟨rfl, hb1⟩
    have HB1 := Held.mk hb1
    clear hb1
    unfold errno
    go_wp2
    rw [rounds_succ]
    go_wp2
    go_ret
    exact ⟨rfl, HB1.out⟩
set_option maxHeartbeats 4000000 in
set_option maxRecDepth 100000 in
theorem is_fault (k l a n : Int) (w : World) : Calls Tryd.prog 74 #[fault k l a, errno n] w fun e w' => e = .returned (.bool (k == n)) ∧ Below w.heap.size w w' := by
  have h8 := @run_callFunc_extern Tryd.prog 85 _ ReflectliteType.typeOf Tryd.func85 (by kernel_rfl) (by kernel_rfl) (by kernel_rfl) (by kernel_rfl)
  have h32 := @run_callFunc_extern Tryd.prog 136 _ (ReflectliteType.method fun t => do Rtype.noPackHeld "Comparable" t; pure (.bool (← typeInfo t).comparable)) Tryd.func136 (by kernel_rfl) (by kernel_rfl) (by kernel_rfl) (by kernel_rfl)
  have tT := tE
  have cT := cE
  have mR := mComparable
  have H := isF k l a n w
  unfold errno fault at H ⊢
  go_enter Tryd.func74, Tryd.ntmps74
  go_wp2_with fail
  refine H.mono ?_
  rintro e w1 ⟨rfl, hb1⟩
  have HB1 := Held.mk hb1
  clear hb1
  go_wp2
  go_ret
  exact ⟨rfl, HB1.out⟩
/-- An error whose number is k. -/
structure IsNum (e : Value) (k : Int) : Prop where
  shape : ∃ T v, e = .iface T v
  eq_ : ∀ (n : Int) (w : World), Calls Tryd.prog 74 #[e, errno n] w fun r w' => r = .returned (.bool (k == n)) ∧ Below w.heap.size w w'
theorem isNum_fault (k l a : Int) : IsNum (fault k l a) k := ⟨⟨_, _, rfl⟩, fun n w => is_fault k l a n w⟩
set_option maxHeartbeats 4000000 in
set_option maxRecDepth 100000 in
theorem num_is (T : TypeId) (v : Value) (k : Int) (w : World) (he : IsNum (.iface T v) k) (hk1 : 1 ≤ k) (hk2 : k ≤ 24) : Calls Tryd.prog 55 #[.iface T v] w fun e w' => e = .returned (.int .i64 k) ∧ Below w.heap.size w w' := by
  have HE := Held.mk he
  clear he
  go_enter Tryd.func55, Tryd.ntmps55
  go_wp2
  go_loopw [3, 4] (fun u i wr => ∃ n : Int, i = .int .i64 n ∧ u = .int .i64 (fnd k n) ∧ 1 ≤ n ∧ n ≤ 25 ∧ Held (Below w.heap.size w wr)) (fun _ i _ => (25 - intOf i).toNat)
  case atStart => exact ⟨1, rfl, by unfold fnd; rw [if_neg (by omega)], by omega, by omega, ⟨Below.refl _ _⟩⟩
  case round =>
    obtain ⟨n, rfl, rfl, hn1, hn2, HB⟩ := hrel
    by_cases hlt : n ≤ 24
    · have hE := fun m w => HE.out.eq_ m w
      unfold errno at hE
      go_wp2_with fail
      refine (hE n wr).mono ?_
      rintro e w1 ⟨rfl, hb1⟩
      have HB1 : Held (Below w.heap.size w w1) := ⟨HB.out.trans (hb1.mono HB.out.size)⟩
      clear hb1 hE
      by_cases hkn : k = n
      · subst hkn
        have h0 : fnd k k = 0 := by unfold fnd; rw [if_neg (by omega)]
        have h1 : fnd k (k + 1) = k := by unfold fnd; rw [if_pos (by omega)]
        rw [h0, show (k == k) = true from by simp]
        have H1 := Held.mk h1
        clear h0 h1
        go_wp2
        go_roundw
        case rel => exact ⟨k + 1, by go_num, by rw [H1.out], by omega, by omega, HB1⟩
        case measure => simp [intOf]; omega
      · have h1 : fnd k (n + 1) = fnd k n := by unfold fnd; (repeat' split) <;> omega
        rw [show (k == n) = false from beq_eq_false_iff_ne.2 hkn]
        have H1 := Held.mk h1
        clear h1 hkn
        generalize fnd k n = fk at *
        go_wp2
        go_roundw
        case rel => exact ⟨n + 1, by go_num, by rw [H1.out], by omega, by omega, HB1⟩
        case measure => simp [intOf]; omega
    · obtain rfl : n = 25 := by omega
      have h1 : fnd k 25 = k := by unfold fnd; rw [if_pos (by omega)]
      rw [h1]
      have hk0 : (k == 0) = false := beq_eq_false_iff_ne.2 (by omega)
      have hE := fun m w => HE.out.eq_ m w
      unfold errno at hE
      clear h1
      go_wp2_with fail
      refine (hE 0 wr).mono ?_
      rintro e w1 ⟨rfl, hb1⟩
      have HB1 : Held (Below w.heap.size w w1) := ⟨HB.out.trans (hb1.mono HB.out.size)⟩
      clear hb1 hE
      rw [hk0]
      go_wp2
      go_ret
      exact ⟨rfl, HB1.out⟩
end Err
end Go.Proofs.YtgmanmbicoofgaaDoor
