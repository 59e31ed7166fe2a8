/- PartialFair: the walk. -/
import Derived.Test.YtpbkmkclagikhaaPar
namespace Go.Proofs.Ytpbkmkclagikhaa
set_option linter.unusedVariables false
set_option linter.unusedSimpArgs false
namespace Prt
open Go.RowKit Mem Dvs
theorem below_drewN {B : Nat} {a w : World} (h : Below B a w) (n : Nat) : Below B a (w.drewN n) := ⟨h.os, h.tape, h.output, h.size, h.block⟩
theorem nat_of {x : Int} (h : 0 ≤ x) : ∃ n : Nat, x = (n : Int) := ⟨x.toNat, by omega⟩
set_option maxHeartbeats 8000000 in
set_option maxRecDepth 100000 in
theorem fair_any (x0 x1 x2 x3 b : Int) (w : World) (h0 : -9223372036854775808 ≤ x0 ∧ x0 ≤ 9223372036854775807) (h1 : x1 ≤ 9223372036854775807) (hb : -9223372036854775808 ≤ b ∧ b ≤ 9223372036854775807) :
    Calls Try.prog 3 #[.agg #[.int .i64 x0, .int .i64 x1, .int .i64 x2, .int .i64 x3], .int .i64 b] w fun e w' => e = .returned (.bool true) ∧ Below w.heap.size w w' := by
  have HB : Held (∀ n, Below w.heap.size w ((w.alloc (.cells #[.int .i64 x0, .int .i64 x1, .int .i64 x2, .int .i64 x3] 22)).drewN n)) := ⟨fun n => below_drewN ((Below.refl _ _).alloc (Nat.le_refl _) _) n⟩
  have HW := Held.mk works_any
  by_cases hm : mright x0 x1 x2 x3
  · obtain ⟨m1, m2, m3, m4, m5, m6⟩ := hm
    obtain ⟨q, rfl⟩ := nat_of (show 0 ≤ x0 by omega)
    obtain ⟨a, rfl⟩ := nat_of m2
    obtain ⟨d, rfl⟩ := nat_of m3
    obtain ⟨p, rfl⟩ := nat_of m4
    have hq : 0 < q := by omega
    have hqm : q ≤ 9223372036854775807 := by omega
    have ha : a ≤ 9223372036854775807 := by omega
    have hd : d + p ≤ q := by omega
    have H1 := Held.mk (fun w => Money_in q a d p w hq hqm ha hd)
    have H2 := Held.mk (fun w => Money_in q a 0 p w hq hqm ha (by omega))
    have hsl : shr q a p ≤ a := shr_le hq (by omega)
    -- the rest that is asked of
    obtain ⟨r, hr, Hr⟩ : ∃ r : Nat, d + p + r ≤ q ∧ Held ((if b < 0 ∨ (q : Int) - d - p < b then (q : Int) - d - p else b) = (r : Int)) := by
      by_cases c : b < 0 ∨ (q : Int) - d - p < b
      · exact ⟨q - d - p, by omega, ⟨by rw [if_pos c]; omega⟩⟩
      · exact ⟨b.toNat, by omega, ⟨by rw [if_neg c]; omega⟩⟩
    have H3 := Held.mk (fun w => Money_in q a (d + p) r w hq hqm ha hr)
    have H4 := Held.mk (fun w => Money_in q a d (p + r) w hq hqm ha (by omega))
    have hle : mny q a d (p + r) ≤ a := mny_le hq (by omega)
    rw [mny_more] at H4 hle
    rw [mny_first] at H2
    generalize mny q a (d + p) r = k3 at *
    have hnear := mny_near (q := q) (a := a) (d := d) (p := p) hq
    generalize mny q a d p = k1 at *
    generalize shr q a p = k2 at *
    have i1 : (k1 : Int) + (k3 : Int) ≤ 9223372036854775807 := by omega
    have i2 : (k2 : Int) ≤ 9223372036854775807 := by omega
    have i3 : (d : Int) + (p : Int) ≤ 9223372036854775807 := by omega
    have i4 : (q : Int) ≤ 9223372036854775807 := by omega
    have i5 : (d : Int) + (p : Int) + (r : Int) ≤ (q : Int) := by omega
    have i6 : (p : Int) ≤ (q : Int) - (d : Int) := by omega
    have hcases : (decide (b < 0) = true ∧ (r : Int) = (q : Int) - d - p) ∨ (decide (b < 0) = false ∧ decide ((q : Int) - d - p < b) = true ∧ (r : Int) = (q : Int) - d - p) ∨ (decide (b < 0) = false ∧ decide ((q : Int) - d - p < b) = false ∧ b = (r : Int)) := by
      have := Hr.out
      by_cases c1 : b < 0
      · rw [if_pos (.inl c1)] at this
        exact .inl ⟨decide_eq_true_iff.2 c1, this.symm⟩
      · by_cases c2 : (q : Int) - d - p < b
        · rw [if_pos (.inr c2)] at this
          exact .inr (.inl ⟨decide_eq_false_iff_not.2 c1, decide_eq_true_iff.2 c2, this.symm⟩)
        · rw [if_neg (by omega)] at this
          exact .inr (.inr ⟨decide_eq_false_iff_not.2 c1, decide_eq_false_iff_not.2 c2, this⟩)
    clear Hr hq hqm ha hd hr hle hsl h0 h1 m1 m2 m3 m4 m5 m6
    rcases hnear with rfl | rfl
    all_goals
      rcases hcases with ⟨c1, c2⟩ | ⟨c1, c3, c2⟩ | ⟨c1, c3, rfl⟩
      all_goals
        first | have HC := Held.mk c2 | skip
        first | clear c2 | skip
        go_enter Try.func3, Try.ntmps3
        go_wp2_with fail
        refine (H1.out _).mono ?_
        rintro e w1 ⟨rfl, n1, rfl⟩
        go_wp2_with fail
        refine (HW.out _).mono ?_
        rintro e w1 ⟨rfl, n2, rfl⟩
        go_wp2_with fail
        refine (H2.out _).mono ?_
        rintro e w1 ⟨rfl, n3, rfl⟩
        go_wp2_with fail
        rw [← Int.natCast_add d p]
        first | rw [← HC.out] | skip
        refine (H3.out _).mono ?_
        rintro e w1 ⟨rfl, n4, rfl⟩
        go_wp2_with fail
        first | rw [← HC.out] | skip
        rw [← Int.natCast_add p r]
        refine (H4.out _).mono ?_
        rintro e w1 ⟨rfl, n5, rfl⟩
        go_wp2
        go_ret
        exact ⟨congrArg (fun b => Ending.returned (Value.bool b)) (decide_eq_true (by omega)), HB.out _⟩
  · have H1 := Held.mk (fun w => Money_no x0 x1 x2 x3 w h0 hm)
    clear hm h0 h1 hb
    unfold refusedV at H1
    go_enter Try.func3, Try.ntmps3
    go_wp2_with fail
    refine (H1.out _).mono ?_
    rintro e w1 ⟨rfl, rfl⟩
    go_wp2_with fail
    refine (HW.out _).mono ?_
    rintro e w1 ⟨rfl, n, rfl⟩
    go_wp2
    go_ret
    exact ⟨rfl, HB.out _⟩
end Prt
end Go.Proofs.Ytpbkmkclagikhaa
