/- Num at the journal's errors. -/
import Derived.Test.YtihgmlcmdpmhhaaErr
namespace Go.Proofs.Ytihgmlcmdpmhhaa
set_option linter.unusedVariables false
set_option linter.unusedSimpArgs false
namespace Err
open Go.RowKit Go.Extern.Stop Go.Stop Go.Extern Mem
structure IsErr (e : Value) (k : Int) : Prop where
  eq_ : ∀ (n : Int) (w : World), Calls Try.prog 37 #[e, errno n] w fun r w' => r = .returned (.bool (k == n)) ∧ Below w.heap.size w w'
/-- What Num has found below n: k, if it was there. -/
def fnd (k n : Int) : Int := if 1 ≤ k ∧ k < n then k else 0
set_option maxHeartbeats 4000000 in
set_option maxRecDepth 100000 in
theorem num_any (T : TypeId) (v : Value) (k : Int) (w : World) (he : IsErr (.iface T v) k) (hk1 : 1 ≤ k) (hk2 : k ≤ 24) : Calls Try.prog 23 #[.iface T v] w fun e w' => e = .returned (.int .i64 k) ∧ Below w.heap.size w w' := by
  have HE := Held.mk he
  clear he
  go_enter Try.func23, Try.ntmps23
  go_wp2
  go_loopw [3, 4] (fun u i wr => ∃ n : Int, i = .int .i64 n ∧ u = .int .i64 (fnd k n) ∧ 1 ≤ n ∧ n ≤ 25 ∧ Held (Below w.heap.size w wr)) (fun _ i _ => (25 - intOf i).toNat)
  case atStart => exact ⟨1, rfl, by unfold fnd; rw [if_neg (by omega)], by omega, by omega, ⟨Below.refl _ _⟩⟩
  case round =>
    obtain ⟨n, rfl, rfl, hn1, hn2, HB⟩ := hrel
    by_cases hlt : n ≤ 24
    · have hE := fun m w => HE.out.eq_ m w
      unfold errno at hE
      go_wp2_with fail
      refine (hE n wr).mono ?_
      rintro e w1 ⟨rfl, hb1⟩
      have HB1 : Held (Below w.heap.size w w1) := ⟨HB.out.trans (hb1.mono HB.out.size)⟩
      clear hb1 hE
      by_cases hkn : k = n
      · subst hkn
        have h0 : fnd k k = 0 := by unfold fnd; rw [if_neg (by omega)]
        have h1 : fnd k (k + 1) = k := by unfold fnd; rw [if_pos (by omega)]
        rw [h0, show (k == k) = true from by simp]
        have H1 := Held.mk h1
        clear h0 h1
        go_wp2
        go_roundw
        case rel => exact ⟨k + 1, by go_num, by rw [H1.out], by omega, by omega, HB1⟩
        case measure => simp [intOf]; omega
      · have h1 : fnd k (n + 1) = fnd k n := by unfold fnd; (repeat' split) <;> omega
        rw [show (k == n) = false from beq_eq_false_iff_ne.2 hkn]
        have H1 := Held.mk h1
        clear h1 hkn
        generalize fnd k n = fk at *
        go_wp2
        go_roundw
        case rel => exact ⟨n + 1, by go_num, by rw [H1.out], by omega, by omega, HB1⟩
        case measure => simp [intOf]; omega
    · obtain rfl : n = 25 := by omega
      have h1 : fnd k 25 = k := by unfold fnd; rw [if_pos (by omega)]
      rw [h1]
      have hk0 : (k == 0) = false := beq_eq_false_iff_ne.2 (by omega)
      have hE := fun m w => HE.out.eq_ m w
      unfold errno at hE
      clear h1
      go_wp2_with fail
      refine (hE 0 wr).mono ?_
      rintro e w1 ⟨rfl, hb1⟩
      have HB1 : Held (Below w.heap.size w w1) := ⟨HB.out.trans (hb1.mono HB.out.size)⟩
      clear hb1 hE
      rw [hk0]
      go_wp2
      go_ret
      exact ⟨rfl, HB1.out⟩
set_option maxHeartbeats 4000000 in
set_option maxRecDepth 100000 in
theorem num_nil (w : World) : Calls Try.prog 23 #[.nilIface] w fun e w' => e = .returned (.int .i64 0) ∧ w' = w := by
  go_enter Try.func23, Try.ntmps23
  go_wp2
  go_ret
  exact ⟨rfl, rfl⟩
end Err
namespace ErJ
theorem isErr_wrong (s : ByteArray) (k : Int) : Err.IsErr (Err.wrong s k) k := ⟨fun n w => Err.is_wrong s k n w⟩
end ErJ
end Go.Proofs.Ytihgmlcmdpmhhaa
