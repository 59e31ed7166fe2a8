/- The document's MulDiv, rounded down: walked. -/
import Derived.Test.YtpbkmkclagikhaaDoorOvr
namespace Go.Proofs.YtpbkmkclagikhaaDoor
set_option linter.unusedVariables false
set_option linter.unusedSimpArgs false
namespace Wid
open Go.RowKit Mem Dvs
set_option maxHeartbeats 4000000 in
set_option maxRecDepth 100000 in
theorem rounds_down (q r c : Nat) (w : World) (hr : r < 18446744073709551616) :
    Calls Tryd.prog 61 #[wd q, .int .u64 r, .int .u64 c, .int .i64 0] w fun e w' => e = .returned (.bool false) ∧ Below w.heap.size w w' := by
  have HB : Held (Below w.heap.size w (w.alloc (.cells #[.int .u64 (hi q), .int .u64 (lo q)] 124))) := ⟨(Below.refl _ _).alloc (Nat.le_refl _) _⟩
  have HP := Held.mk (fun w => plus_in r r w (by unfold top; omega))
  rw [← wide_small r hr] at HP
  obtain ⟨h1, h2, hw⟩ : ∃ h1 h2 : Nat, wd (r + r) = .agg #[.int .u64 h1, .int .u64 h2] := ⟨_, _, rfl⟩
  rw [hw] at HP
  have hwq : wd q = .agg #[.int .u64 (hi q), .int .u64 (lo q)] := rfl
  rw [hwq]
  generalize hi q = a at *
  generalize lo q = b at *
  clear hw hr hwq
  go_enter Tryd.func61, Tryd.ntmps61
  go_wp2_with fail
  generalize w.alloc (.cells #[.int .u64 a, .int .u64 b] 124) = w1 at *
  refine (HP.out _).mono ?_
  rintro e w2 ⟨rfl, hb⟩
  have HB2 : Held (Below w.heap.size w w2) := ⟨HB.out.trans (hb.mono HB.out.size)⟩
  clear hb HB HP
  go_wp2
  go_ret
  exact ⟨rfl, (HB2.out.alloc HB2.out.size _).alloc (by have := HB2.out.size; simp; omega) _⟩
set_option maxHeartbeats 4000000 in
set_option maxRecDepth 100000 in
theorem rMulDiv_in (a b c : Nat) (w : World) (ha : a ≤ 9223372036854775807) (hb : b ≤ c) (hc0 : 0 < c) (hc : c ≤ 9223372036854775807) :
    Calls Tryd.prog 51 #[.int .i64 a, .int .i64 b, .int .i64 c, .int .i64 0] w fun e w' => e = .returned (.tuple #[.int .i64 ((a * b / c : Nat) : Int), .int .i64 0]) ∧ Below w.heap.size w w' := by
  have hab : a * b < top := by
    have := Nat.mul_le_mul ha (Nat.le_trans hb hc)
    unfold top; omega
  have hq : a * b / c ≤ 9223372036854775807 := by
    refine Nat.le_trans (Nat.le_trans (Nat.div_le_div_right (Nat.mul_le_mul_left a hb)) ?_) ha
    rw [Nat.mul_div_cancel _ hc0]; exact Nat.le_refl _
  have HT := Held.mk (fun w => times_in a b w (by omega) (by omega))
  have HO := Held.mk (fun w => over_in (a * b) c w hab hc0 hc)
  have hrc := Nat.mod_lt (a * b) hc0
  have HR := Held.mk (fun w => rounds_down (a * b / c) (a * b % c) c w (by omega))
  rw [← wide_small (a * b / c) (by omega)] at HO HR
  obtain ⟨h1, h2, hw⟩ : ∃ h1 h2 : Nat, wd (a * b) = .agg #[.int .u64 h1, .int .u64 h2] := ⟨_, _, rfl⟩
  rw [hw] at HO HT
  generalize a * b / c = q at *
  generalize a * b % c = r at *
  have ia : (a : Int) ≤ 9223372036854775807 := by omega
  have ib : (b : Int) ≤ 9223372036854775807 := by omega
  have ic : (c : Int) ≤ 9223372036854775807 := by omega
  have iq : (q : Int) ≤ 9223372036854775807 := by omega
  have hq1 : decide ((9223372036854775807 : Int) < (q : Int)) = false := decide_eq_false_iff_not.2 (by omega)
  have hc1 : decide ((c : Int) ≤ 0) = false := decide_eq_false_iff_not.2 (by omega)
  clear hw hab hq hrc ha hb hc
  go_enter Tryd.func51, Tryd.ntmps51
  go_wp2_with fail
  refine (HT.out _).mono ?_
  rintro e w1 ⟨rfl, hb⟩
  have HB1 := Held.mk hb
  clear hb
  go_wp2_with fail
  refine (HO.out _).mono ?_
  rintro e w2 ⟨rfl, hb⟩
  have HB2 : Held (Below w.heap.size w w2) := ⟨HB1.out.trans (hb.mono HB1.out.size)⟩
  clear hb HB1
  have HB3 : Held (Below w.heap.size w (w2.alloc (.cells #[.int .u64 0, .int .u64 q] 124))) := ⟨HB2.out.alloc HB2.out.size _⟩
  have HN3 := Held.mk (Blk.new w2 124 #[.int .u64 0, .int .u64 q])
  generalize hG : w2.heap.size = G at *
  go_wp2_with fail
  generalize w2.alloc (.cells #[.int .u64 0, .int .u64 q] 124) = w3 at *
  refine (HR.out _).mono ?_
  rintro e w4 ⟨rfl, hb⟩
  have HB4 : Held (Below w.heap.size w w4) := ⟨HB3.out.trans (hb.mono HB3.out.size)⟩
  have HN4 := Held.mk (HN3.out.keep (Keep.of_below hb (fun _ => False)) (fun h => h))
  have k0 := HN4.out.cell 0
  have k1 := HN4.out.cell 1
  simp at k0 k1
  clear hb hG
  go_wp2
  go_ret2
  exact ⟨rfl, HB4.out⟩
end Wid
end Go.Proofs.YtpbkmkclagikhaaDoor
