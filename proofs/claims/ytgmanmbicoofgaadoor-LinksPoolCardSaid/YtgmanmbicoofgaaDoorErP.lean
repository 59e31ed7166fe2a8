/- errors.As, Num and Plain, by contracts. -/
import Derived.Test.YtgmanmbicoofgaaDoorErA
namespace Go.Proofs.YtgmanmbicoofgaaDoor
set_option linter.unusedVariables false
set_option linter.unusedSimpArgs false
namespace Err
open Go.RowKit Go.Extern.Stop Go.Stop Go.Extern Mem

/-- An error of this program that is no Fault: e, its number k. -/
structure IsErr (e : Value) (k : Int) : Prop where
  shape : ∃ T v, e = .iface T v
  eq_ : ∀ (n : Int) (w : World), Calls Tryd.prog 74 #[e, errno n] w fun r w' => r = .returned (.bool (k == n)) ∧ Below w.heap.size w w'
  un_ : ∀ (t : Addr) (a b c : Value) (w : World), Calls Tryd.prog 78 #[e, .iface 96 (.pointer (some t)), .agg #[a, b, c], .iface 141 (.agg #[.pointer (some ⟨1, 93, none⟩)])] w fun r w' => r = .returned (.bool false) ∧ Below w.heap.size w w'
theorem isErr_errno (k : Int) : IsErr (errno k) k := ⟨⟨_, _, rfl⟩, fun n w => is_errno k n w, fun t a b c w => asE k t a b c w⟩
theorem isErr_wrong (k : Int) : IsErr (wrong k) k := ⟨⟨_, _, rfl⟩, fun n w => is_wrong k n w, fun t a b c w => asW k t a b c w⟩
set_option maxHeartbeats 4000000 in
set_option maxRecDepth 100000 in
theorem as_any (T : TypeId) (v : Value) (k : Int) (t : Addr) (w : World) (he : IsErr (.iface T v) k) (hg : Laid w) : Calls Tryd.prog 56 #[.iface T v, .iface 96 (.pointer (some t))] w fun e w' => e = .returned (.bool false) ∧ Below w.heap.size w w' := by
  have HE := Held.mk he
  have h6 := @run_callFunc_extern Tryd.prog 75 _ (fun args => ReflectliteValue.unpack (args.getD 0 (.tuple #[]))) Tryd.func75 (by kernel_rfl) (by kernel_rfl) (by kernel_rfl) (by kernel_rfl)
  have h7 := @run_callFunc_extern Tryd.prog 76 _ (ReflectliteValue.methodAny (ReflectliteValue.valueError "reflectlite.Value.Type" 0) (fun t _ _ _ => ReflectliteType.toType t)) Tryd.func76 (by kernel_rfl) (by kernel_rfl) (by kernel_rfl) (by kernel_rfl)
  have h8 := @run_callFunc_extern Tryd.prog 77 _ (ReflectliteValue.method (ReflectliteValue.valueError "reflectlite.Value.IsNil" 0) ReflectliteValue.isNil) Tryd.func77 (by kernel_rfl) (by kernel_rfl) (by kernel_rfl) (by kernel_rfl)
  have h27 := @run_callFunc_extern Tryd.prog 123 _ (ReflectliteType.abiMethod fun t => do pure (.int .u8 (← Rtype.kind t))) Tryd.func123 (by kernel_rfl) (by kernel_rfl) (by kernel_rfl) (by kernel_rfl)
  have h37 := @run_callFunc_extern Tryd.prog 137 _ (ReflectliteType.method ReflectliteType.elem) Tryd.func137 (by kernel_rfl) (by kernel_rfl) (by kernel_rfl) (by kernel_rfl)
  have h38 := @run_callFunc_extern Tryd.prog 138 _ (ReflectliteType.relation "Implements" ReflectliteType.implements_) Tryd.func138 (by kernel_rfl) (by kernel_rfl) (by kernel_rfl) (by kernel_rfl)
  have f6 := vPF
  have f7 := tyPF
  have mK := mKind
  have mE := mElem
  have mI := mImplements
  have k27 := kPF
  have k25 := kF
  have e27 := elPF
  have i25 := impF
  have n8 := isNilPF ⟨w.heap.size, 0, none⟩ t ((w.alloc (.cells #[.pointer (some t)] 96)).alloc (.cells #[.pointer (some ⟨1, 96, none⟩), .pointer (some ⟨w.heap.size, 0, none⟩), .int .u64 150] 123)) (by simp)
  have hlt := hg.lt
  have HB : Held (Below w.heap.size w ((w.alloc (.cells #[.pointer (some t)] 96)).alloc (.cells #[.pointer (some ⟨1, 96, none⟩), .pointer (some ⟨w.heap.size, 0, none⟩), .int .u64 150] 123))) := ⟨((Below.refl _ _).alloc (Nat.le_refl _) _).alloc (by simp) _⟩
  have hg2 : ((w.alloc (.cells #[.pointer (some t)] 96)).alloc (.cells #[.pointer (some ⟨1, 96, none⟩), .pointer (some ⟨w.heap.size, 0, none⟩), .int .u64 150] 123)).cell? ⟨0, 0, none⟩ = some (.iface 141 (.agg #[.pointer (some ⟨1, 28, none⟩)])) := hg.below HB.out
  clear he
  go_enter Tryd.func56, Tryd.ntmps56
  go_wp2_with fail
  refine (HE.out.un_ t _ _ _ _).mono ?_
  rintro e w1 ⟨rfl, hb1⟩
  have HB1 : Held (Below w.heap.size w w1) := ⟨HB.out.trans (hb1.mono HB.out.size)⟩
  clear hb1
  go_wp2
  go_ret
  exact ⟨rfl, HB1.out⟩
/-- What Num has found below n: k, if it was there. -/
def fnd (k n : Int) : Int := if 1 ≤ k ∧ k < n then k else 0
set_option maxHeartbeats 4000000 in
set_option maxRecDepth 100000 in
theorem num_any (T : TypeId) (v : Value) (k : Int) (w : World) (he : IsErr (.iface T v) k) (hk1 : 1 ≤ k) (hk2 : k ≤ 24) : Calls Tryd.prog 55 #[.iface T v] w fun e w' => e = .returned (.int .i64 k) ∧ Below w.heap.size w w' := by
  have HE := Held.mk he
  clear he
  go_enter Tryd.func55, Tryd.ntmps55
  go_wp2
  go_loopw [3, 4] (fun u i wr => ∃ n : Int, i = .int .i64 n ∧ u = .int .i64 (fnd k n) ∧ 1 ≤ n ∧ n ≤ 25 ∧ Held (Below w.heap.size w wr)) (fun _ i _ => (25 - intOf i).toNat)
  case atStart => exact ⟨1, rfl, by unfold fnd; rw [if_neg (by omega)], by omega, by omega, ⟨Below.refl _ _⟩⟩
  case round =>
    obtain ⟨n, rfl, rfl, hn1, hn2, HB⟩ := hrel
    by_cases hlt : n ≤ 24
    · have hE := fun m w => HE.out.eq_ m w
      unfold errno at hE
      go_wp2_with fail
      refine (hE n wr).mono ?_
      rintro e w1 ⟨rfl, hb1⟩
      have HB1 : Held (Below w.heap.size w w1) := ⟨HB.out.trans (hb1.mono HB.out.size)⟩
      clear hb1 hE
      by_cases hkn : k = n
      · subst hkn
        have h0 : fnd k k = 0 := by unfold fnd; rw [if_neg (by omega)]
        have h1 : fnd k (k + 1) = k := by unfold fnd; rw [if_pos (by omega)]
        rw [h0, show (k == k) = true from by simp]
        have H1 := Held.mk h1
        clear h0 h1
        go_wp2
        go_roundw
        case rel => exact ⟨k + 1, by go_num, by rw [H1.out], by omega, by omega, HB1⟩
        case measure => simp [intOf]; omega
      · have h1 : fnd k (n + 1) = fnd k n := by unfold fnd; (repeat' split) <;> omega
        rw [show (k == n) = false from beq_eq_false_iff_ne.2 hkn]
        have H1 := Held.mk h1
        clear h1 hkn
        generalize fnd k n = fk at *
        go_wp2
        go_roundw
        case rel => exact ⟨n + 1, by go_num, by rw [H1.out], by omega, by omega, HB1⟩
        case measure => simp [intOf]; omega
    · obtain rfl : n = 25 := by omega
      have h1 : fnd k 25 = k := by unfold fnd; rw [if_pos (by omega)]
      rw [h1]
      have hk0 : (k == 0) = false := beq_eq_false_iff_ne.2 (by omega)
      have hE := fun m w => HE.out.eq_ m w
      unfold errno at hE
      clear h1
      go_wp2_with fail
      refine (hE 0 wr).mono ?_
      rintro e w1 ⟨rfl, hb1⟩
      have HB1 : Held (Below w.heap.size w w1) := ⟨HB.out.trans (hb1.mono HB.out.size)⟩
      clear hb1 hE
      rw [hk0]
      go_wp2
      go_ret
      exact ⟨rfl, HB1.out⟩
set_option maxHeartbeats 4000000 in
set_option maxRecDepth 100000 in
theorem num_nil (w : World) : Calls Tryd.prog 55 #[.nilIface] w fun e w' => e = .returned (.int .i64 0) ∧ w' = w := by
  go_enter Tryd.func55, Tryd.ntmps55
  go_wp2
  go_ret
  exact ⟨rfl, rfl⟩
set_option maxHeartbeats 4000000 in
set_option maxRecDepth 100000 in
theorem plain_err (T : TypeId) (v : Value) (k n : Int) (w : World) (he : IsErr (.iface T v) k) (hk1 : 1 ≤ k) (hk2 : k ≤ 24) (hg : Laid w) : Calls Tryd.prog 23 #[.iface T v, .int .i64 n] w fun e w' => e = .returned (.bool (k == n)) ∧ Below w.heap.size w w' := by
  have HE := Held.mk he
  have HB0 : Held (Below w.heap.size w (w.alloc (.cells #[.int .i64 0, .int .i64 0, .int .i64 0] 93))) := ⟨(Below.refl _ _).alloc (Nat.le_refl _) _⟩
  have HG := Held.mk (hg.below HB0.out)
  clear he hg
  go_enter Tryd.func23, Tryd.ntmps23
  go_wp2_with fail
  generalize w.alloc (.cells #[.int .i64 0, .int .i64 0, .int .i64 0] 93) = wA at *
  refine (num_any T v k wA HE.out hk1 hk2).mono ?_
  rintro e w1 ⟨rfl, hb1⟩
  have HB1 : Held (Below w.heap.size w w1) := ⟨HB0.out.trans (hb1.mono HB0.out.size)⟩
  have HG1 := Held.mk (HG.out.below hb1)
  clear hb1
  have hb : (k == n) = true ∨ (k == n) = false := by cases (k == n) <;> simp
  rcases hb with hb | hb
  · have HQ := Held.mk hb
    go_wp2_with fail
    refine (as_any T v k _ w1 HE.out HG1.out).mono ?_
    rintro e w2 ⟨rfl, hb2⟩
    have HB2 : Held (Below w.heap.size w w2) := ⟨HB1.out.trans (hb2.mono HB1.out.size)⟩
    clear hb2
    go_wp2
    go_ret
    exact ⟨by rw [HQ.out]; rfl, HB2.out⟩
  · have HQ := Held.mk hb
    go_wp2
    go_ret
    exact ⟨by rw [HQ.out]; rfl, HB1.out⟩
set_option maxHeartbeats 4000000 in
set_option maxRecDepth 100000 in
theorem plain_nil (n : Int) (w : World) : Calls Tryd.prog 23 #[.nilIface, .int .i64 n] w fun e w' => e = .returned (.bool (0 == n)) ∧ Below w.heap.size w w' := by
  have HB0 : Held (Below w.heap.size w (w.alloc (.cells #[.int .i64 0, .int .i64 0, .int .i64 0] 93))) := ⟨(Below.refl _ _).alloc (Nat.le_refl _) _⟩
  go_enter Tryd.func23, Tryd.ntmps23
  go_wp2_with fail
  generalize w.alloc (.cells #[.int .i64 0, .int .i64 0, .int .i64 0] 93) = wA at *
  refine (num_nil wA).mono ?_
  rintro e w1 ⟨rfl, rfl⟩
  have hb : ((0 : Int) == n) = true ∨ ((0 : Int) == n) = false := by cases ((0 : Int) == n) <;> simp
  rcases hb with hb | hb
  · have HQ := Held.mk hb
    go_wp2
    go_ret
    exact ⟨by rw [HQ.out]; rfl, HB0.out⟩
  · have HQ := Held.mk hb
    go_wp2
    go_ret
    exact ⟨by rw [HQ.out]; rfl, HB0.out⟩
end Err
end Go.Proofs.YtgmanmbicoofgaaDoor
