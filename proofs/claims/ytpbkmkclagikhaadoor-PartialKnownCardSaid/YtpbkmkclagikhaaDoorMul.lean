/- amount.divided and amount.MulDiv, rounded down, where the quotient fits. -/
import Derived.Test.YtpbkmkclagikhaaDoorDiv
namespace Go.Proofs.YtpbkmkclagikhaaDoor
set_option linter.unusedVariables false
set_option linter.unusedSimpArgs false
namespace Dvs
open Go.RowKit Mem
theorem drewN0 (w : World) : w.drewN 0 = w := rfl
theorem div_any (hi lo y : Nat) (w : World) (hy : hi < y) (hy2 : y < 18446744073709551616) (hl : lo < 18446744073709551616) :
    Calls Tryd.prog 67 #[.int .u64 hi, .int .u64 lo, .int .u64 y] w fun e w' => e = .returned (.tuple #[.int .u64 (((hi * 18446744073709551616 + lo) / y : Nat) : Int), .int .u64 (((hi * 18446744073709551616 + lo) % y : Nat) : Int)]) ∧ ∃ n, w' = w.drewN n := by
  rcases Nat.eq_zero_or_pos hi with h | h
  · subst h
    rw [Nat.zero_mul, Nat.zero_add]
    exact div_small lo y w hy hy2 hl
  · exact (div_great hi lo y w h hy hy2 hl).mono fun e w' ⟨h1, h2⟩ => ⟨h1, 0, h2⟩
/-- The product's two words over c. -/
theorem two_words (a b : Nat) : a * b / 18446744073709551616 * 18446744073709551616 + a * b % 18446744073709551616 = a * b := by omega
set_option maxHeartbeats 4000000 in
set_option maxRecDepth 100000 in
theorem divided_in (a b c : Nat) (w : World) (ha : a ≤ 9223372036854775807) (hb : b ≤ 9223372036854775807) (hc0 : 0 < c) (hc : c ≤ 9223372036854775807) (hq : a * b / 18446744073709551616 < c) :
    Calls Tryd.prog 63 #[.int .i64 a, .int .i64 b, .int .i64 c] w fun e w' => e = .returned (.tuple #[.int .u64 ((a * b / c : Nat) : Int), .int .u64 ((a * b % c : Nat) : Int), .bool true]) ∧ ∃ n, w' = w.drewN n := by
  have hm := Tryd.bits_Mul64 a b (by omega) (by omega)
  have hd := div_any (a * b / 18446744073709551616) (a * b % 18446744073709551616) c
  rw [two_words] at hd
  have HM := Held.mk hm
  have HD := Held.mk (fun w => hd w hq (by omega) (Nat.mod_lt _ (by omega)))
  clear hm hd
  have ia : (a : Int) ≤ 9223372036854775807 := by omega
  have ib : (b : Int) ≤ 9223372036854775807 := by omega
  have ic : (c : Int) ≤ 9223372036854775807 := by omega
  clear ha hb hc
  have hqd : decide (c ≤ a * b / 18446744073709551616) = false := decide_eq_false_iff_not.2 (by omega)
  generalize a * b / 18446744073709551616 = h at *
  generalize a * b % 18446744073709551616 = l at *
  generalize a * b / c = q at *
  generalize a * b % c = r at *
  go_enter Tryd.func63, Tryd.ntmps63
  go_wp2_with fail
  refine (HM.out w).mono ?_
  rintro e w1 ⟨rfl, rfl⟩
  go_wp2_with fail
  refine (HD.out _).mono ?_
  rintro e w2 ⟨rfl, n, rfl⟩
  go_wp2
  go_ret3
  exact ⟨rfl, n, rfl⟩
theorem fits (a b c : Nat) (hb : b ≤ c) (hc0 : 0 < c) : a * b / c ≤ a := by
  calc a * b / c ≤ a * c / c := Nat.div_le_div_right (Nat.mul_le_mul_left _ hb)
    _ = a := Nat.mul_div_cancel _ hc0
theorem high_lt (a b c : Nat) (hb : b ≤ c) (hc0 : 0 < c) (ha : a ≤ 9223372036854775807) : a * b / 18446744073709551616 < c := by
  rw [Nat.div_lt_iff_lt_mul (by omega)]
  calc a * b ≤ a * c := Nat.mul_le_mul_left _ hb
    _ ≤ 9223372036854775807 * c := Nat.mul_le_mul_right _ ha
    _ < c * 18446744073709551616 := by omega
set_option maxHeartbeats 4000000 in
set_option maxRecDepth 100000 in
theorem muldiv_in (a b c : Nat) (w : World) (ha : a ≤ 9223372036854775807) (hb : b ≤ c) (hc0 : 0 < c) (hc : c ≤ 9223372036854775807) :
    Calls Tryd.prog 52 #[.int .i64 a, .int .i64 b, .int .i64 c, .int .i64 0] w fun e w' => e = .returned (.tuple #[.int .i64 ((a * b / c : Nat) : Int), .nilIface]) ∧ ∃ n, w' = w.drewN n := by
  have hd := divided_in a b c w ha (by omega) hc0 hc (high_lt a b c hb hc0 ha)
  have hqa := fits a b c hb hc0
  have hr := Nat.mod_lt (a * b) hc0
  generalize a * b / c = q at *
  generalize a * b % c = r at *
  have HD := Held.mk hd
  have ia : (a : Int) ≤ 9223372036854775807 := by omega
  have iq : (q : Int) ≤ 9223372036854775807 := by omega
  have ic : (c : Int) ≤ 9223372036854775807 := by omega
  have ib : (b : Int) ≤ 9223372036854775807 := by omega
  have hq1 : decide ((9223372036854775807 : Int) < (q : Int)) = false := decide_eq_false_iff_not.2 (by omega)
  have hc1 : decide ((c : Int) ≤ 0) = false := decide_eq_false_iff_not.2 (by omega)
  clear hd ha hb hc hqa
  go_enter Tryd.func52, Tryd.ntmps52
  go_wp2_with fail
  refine HD.out.mono ?_
  rintro e w1 ⟨rfl, n, rfl⟩
  go_wp2
  go_ret2
  exact ⟨rfl, n, rfl⟩
end Dvs
end Go.Proofs.YtpbkmkclagikhaaDoor
