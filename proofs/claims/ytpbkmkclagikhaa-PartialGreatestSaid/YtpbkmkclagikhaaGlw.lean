/- PartialGreatest: the walk. -/
import Derived.Test.YtpbkmkclagikhaaTak
namespace Go.Proofs.Ytpbkmkclagikhaa
set_option linter.unusedVariables false
set_option linter.unusedSimpArgs false
namespace Prt
open Go.RowKit Mem Dvs
/-- What Part tells is what is taken, if there is money enough. -/
theorem part_rich {q a l m t : Nat} {have_ cash : Int} (h : Best q a l m 0 have_ cash t) (hq : 0 < q) (hl : 0 < l) (hc : (a : Int) ≤ cash) (h0 : 0 ≤ have_) : part q l m have_ = (t : Int) := by
  have h1 := h.rich hq hl (Nat.zero_le _) hc
  obtain ⟨n, rfl⟩ : ∃ n : Nat, have_ = (n : Int) := ⟨have_.toNat, by omega⟩
  unfold part
  by_cases c1 : (q : Int) ≤ (n : Int)
  · rw [if_pos c1]
    rw [if_pos (by omega)] at h1
    omega
  · rw [if_neg c1]
    rw [if_neg (by omega)] at h1
    have e1 : lots q l 0 (n : Int) = n / l := by
      unfold lots
      congr 1
      omega
    rw [e1] at h1
    have e2 : (n : Int) - (n : Int) % (l : Int) = ((n / l * l : Nat) : Int) := by
      have h2 := Nat.div_add_mod n l
      have h3 : (n : Int) % (l : Int) = ((n % l : Nat) : Int) := rfl
      rw [h3, Nat.mul_comm (n / l) l]
      omega
    rw [e2]
    generalize n / l * l = k at *
    by_cases c2 : m ≤ k
    · rw [if_pos c2] at h1
      rw [if_neg (by omega)]
      omega
    · rw [if_neg c2] at h1
      rw [if_pos (by omega)]
      omega
set_option maxHeartbeats 16000000 in
set_option maxRecDepth 100000 in
theorem greatestLaw_any (x0 x1 x2 x3 have_ cash : Int) (w : World) (b0 : -9223372036854775808 ≤ x0 ∧ x0 ≤ 9223372036854775807) (b1 : x1 ≤ 9223372036854775807) (b2 : x2 ≤ 9223372036854775807) (b3 : x3 ≤ 9223372036854775807) (hh : -9223372036854775808 ≤ have_ ∧ have_ ≤ 9223372036854775807) :
    Calls Try.prog 4 #[.agg #[.int .i64 x0, .int .i64 x1, .int .i64 x2, .int .i64 x3], .int .i64 have_, .int .i64 cash] w fun e w' => e = .returned (.bool true) ∧ Below w.heap.size w w' := by
  have HB0 : Held (Below w.heap.size w (w.alloc (.cells #[.int .i64 x0, .int .i64 x1, .int .i64 x2, .int .i64 x3] 22))) := ⟨(Below.refl _ _).alloc (Nat.le_refl _) _⟩
  have HW := Held.mk works_any
  by_cases hm : x0 < 1 ∨ x1 < 0 ∨ x2 < 1 ∨ x3 < 0
  · have H1 := Held.mk (fun w => New_no x0 x1 x2 x3 w hm)
    clear hm b0 b1 b2 b3 hh
    unfold refusedV at H1
    go_enter Try.func4, Try.ntmps4
    go_wp2_with fail
    refine (H1.out _).mono ?_
    rintro e w1 ⟨rfl, rfl⟩
    go_wp2_with fail
    refine (HW.out _).mono ?_
    rintro e w1 ⟨rfl, n, rfl⟩
    go_wp2
    go_ret
    exact ⟨rfl, below_drewN HB0.out _⟩
  · obtain ⟨q, rfl⟩ := nat_of (show 0 ≤ x0 by omega)
    obtain ⟨a, rfl⟩ := nat_of (show 0 ≤ x1 by omega)
    obtain ⟨l, rfl⟩ := nat_of (show 0 ≤ x2 by omega)
    obtain ⟨m, rfl⟩ := nat_of (show 0 ≤ x3 by omega)
    have hq : 0 < q := by omega
    have hl : 0 < l := by omega
    have hqm : q ≤ 9223372036854775807 := by omega
    have ha : a ≤ 9223372036854775807 := by omega
    have hlm : l ≤ 9223372036854775807 := by omega
    have hmm : m ≤ 9223372036854775807 := by omega
    have HN := Held.mk (fun w => New_in q a l m w hq hl)
    have HT := Held.mk (fun base B v xs w ho => Take_in base B q a l m 0 have_ cash v xs w ho hq hqm ha hl (Nat.zero_le _) hh)
    have HM := Held.mk (fun p w hp => Money_in q a 0 p w hq hqm ha hp)
    have HP := Held.mk (fun w h0 => Part_in q l m have_ w (by omega) (by omega) (by omega) h0 hh.2)
    have i1 : (q : Int) ≤ 9223372036854775807 := by omega
    have i2 : (a : Int) ≤ 9223372036854775807 := by omega
    have i3 : (l : Int) ≤ 9223372036854775807 := by omega
    have i4 : (1 : Int) ≤ (q : Int) := by omega
    have i5 : (1 : Int) ≤ (l : Int) := by omega
    have HQ := Held.mk hq
    have HL := Held.mk hl
    clear hm b0 b1 b2 b3 hqm ha hlm hmm hq hl
    have HX0 := Held.mk (Blk.new w 22 #[.int .i64 q, .int .i64 a, .int .i64 l, .int .i64 m])
    have HB1 := Held.mk (HB0.out.alloc (by simp) (.cells #[.int .i64 q, .int .i64 a, .int .i64 l, .int .i64 m, .int .i64 0, .int .i64 0, .slice none 0 0] 48))
    have HX1 := Held.mk (HX0.out.alloc (.cells #[.int .i64 q, .int .i64 a, .int .i64 l, .int .i64 m, .int .i64 0, .int .i64 0, .slice none 0 0] 48))
    have HO1 : Held (Ord ((w.alloc (.cells #[.int .i64 q, .int .i64 a, .int .i64 l, .int .i64 m] 22)).alloc (.cells #[.int .i64 q, .int .i64 a, .int .i64 l, .int .i64 m, .int .i64 0, .int .i64 0, .slice none 0 0] 48)) w.heap.size (w.heap.size + 1) q a l m 0 (shr q a 0) (.slice none 0 0) []) := ⟨by
      have hn := Blk.new (w.alloc (.cells #[.int .i64 q, .int .i64 a, .int .i64 l, .int .i64 m] 22)) 48 #[.int .i64 q, .int .i64 a, .int .i64 l, .int .i64 m, .int .i64 0, .int .i64 0, .slice none 0 0]
      rw [World.size_alloc] at hn
      exact ⟨by rw [shr_zero]; exact hn, by omega, own_nil _ _ _ _⟩⟩
    go_enter Try.func4, Try.ntmps4
    go_wp2_with fail
    refine (HN.out _).mono ?_
    rintro e w1 ⟨rfl, rfl⟩
    rw [World.size_alloc]
    generalize (w.alloc (.cells #[.int .i64 q, .int .i64 a, .int .i64 l, .int .i64 m] 22)).alloc (.cells #[.int .i64 q, .int .i64 a, .int .i64 l, .int .i64 m, .int .i64 0, .int .i64 0, .slice none 0 0] 48) = w1 at *
    have k0 := HX1.out.cell 0
    have k1 := HX1.out.cell 1
    have k2 := HX1.out.cell 2
    have k3 := HX1.out.cell 3
    simp at k0 k1 k2 k3
    go_wp2_with fail
    refine (HW.out _).mono ?_
    rintro e w2 ⟨rfl, n1, rfl⟩
    go_wp2_with fail
    refine (HT.out w.heap.size (w.heap.size + 1) _ [] (w1.drewN n1) ⟨HO1.out.blk.drewN _, HO1.out.ge, HO1.out.own⟩ (by decide)).mono ?_
    rintro e w2 ⟨t, v2, rfl, hbest, _, hk, _⟩
    clear k0 k1 k2 k3
    have HX2 := Held.mk ((HX1.out.drewN n1).keep hk (fun h => by rcases h with h | h <;> first | omega | cases h))
    have HB2 : Held (Below w.heap.size w w2) := ⟨by
      have h1 := (Keep.of_below (below_drewN HB1.out n1) (fun _ => False)).then hk (fun i hi h => by rcases h with h | h <;> first | omega | cases h)
      exact h1.to_below (fun _ _ h => h)⟩
    have HBe := Held.mk hbest
    have htq := hbest.le HL.out (Nat.zero_le _)
    have HTQ := Held.mk htq
    have it : (t : Int) ≤ (q : Int) := by omega
    clear hk hbest htq
    rw [mny_first]
    have k0 := HX2.out.cell 0
    have k1 := HX2.out.cell 1
    have k2 := HX2.out.cell 2
    have k3 := HX2.out.cell 3
    simp at k0 k1 k2 k3
    go_wp2_with fail
    refine (HM.out q _ (by omega)).mono ?_
    rintro e w3 ⟨rfl, n2, rfl⟩
    rw [mny_first, shr_all HQ.out]
    have hcase : (decide (t < q) = false) ∨ (decide (t < q) = true ∧ decide ((q : Int) ≤ have_) = false) ∨ (decide (t < q) = true ∧ decide ((q : Int) ≤ have_) = true ∧ decide ((a : Int) ≤ cash) = false) := by
      by_cases c1 : t < q
      · by_cases c2 : (q : Int) ≤ have_
        · refine .inr (.inr ⟨decide_eq_true c1, decide_eq_true c2, decide_eq_false (fun c3 => ?_)⟩)
          have := HBe.out.all (by simpa using c2) (by rw [mny_first, Nat.sub_zero, shr_all HQ.out]; exact c3)
          omega
        · exact .inr (.inl ⟨decide_eq_true c1, decide_eq_false c2⟩)
      · exact .inl (decide_eq_false c1)
    dsimp only
    go_upto_region 6 with fail
    go_cut [80] (fun s wx => s = .bool false ∧ wx = w2.drewN n2)
    case first =>
      rcases hcase with c1 | ⟨c1, c2⟩ | ⟨c1, c2, c3⟩
      all_goals
        go_wp2_with fail
        go_meet
        exact ⟨rfl, rfl⟩
    case rest =>
      obtain ⟨rfl, rfl⟩ := hcut
      clear hcase
      go_upto_if 82 with fail
      go_cut [] (fun wx => ∃ n, wx = w2.drewN n)
      case first =>
        by_cases ht : 0 < t
        · go_wp2_with fail
          refine (HM.out t _ (by have := HTQ.out; omega)).mono ?_
          rintro e w3 ⟨rfl, n3, rfl⟩
          rw [mny_first]
          go_wp2_with fail
          go_meet
          exact ⟨_, rfl⟩
        · go_wp2_with fail
          go_meet
          exact ⟨_, rfl⟩
      case rest =>
        obtain ⟨n4, rfl⟩ := hcut
        by_cases d1 : (a : Int) ≤ cash
        · by_cases d2 : 0 ≤ have_
          · have g1 : decide ((a : Int) ≤ cash) = true := decide_eq_true d1
            have g2 : decide (0 ≤ have_) = true := decide_eq_true d2
            have HE := Held.mk (part_rich HBe.out HQ.out HL.out d1 d2)
            have HC2 := Held.mk d2
            clear d1 d2
            go_wp2_with fail
            refine (HP.out _ HC2.out).mono ?_
            rintro e w3 ⟨rfl, rfl⟩
            rw [HE.out]
            by_cases c1 : (q : Int) - (l : Int) ≤ (t : Int)
            · have h1 : decide ((q : Int) - (l : Int) ≤ (t : Int)) = true := decide_eq_true c1
              clear c1
              go_wp2
              go_ret
              exact ⟨rfl, below_drewN HB2.out _⟩
            · have h1 : decide ((q : Int) - (l : Int) ≤ (t : Int)) = false := decide_eq_false c1
              have h2 : (t : Int) + (l : Int) ≤ (q : Int) := by omega
              have HTL : Held (t + l < q - 0) := ⟨by omega⟩
              clear c1
              by_cases c2 : t + l < m
              · have h3 : decide ((t : Int) + (l : Int) < (m : Int)) = true := decide_eq_true (by omega)
                clear c2
                go_wp2
                go_ret
                exact ⟨rfl, below_drewN HB2.out _⟩
              · have h3 : decide ((t : Int) + (l : Int) < (m : Int)) = false := decide_eq_false (by omega)
                by_cases c3 : have_ < (t : Int) + (l : Int)
                · have h4 : decide (have_ < (t : Int) + (l : Int)) = true := decide_eq_true c3
                  clear c3 c2
                  go_wp2
                  go_ret
                  exact ⟨rfl, below_drewN HB2.out _⟩
                · have h4 : decide (have_ < (t : Int) + (l : Int)) = false := decide_eq_false c3
                  have HMo := Held.mk (HBe.out.most HL.out (Nat.zero_le _) HTL.out (by omega) (by omega))
                  clear c3 c2
                  go_wp2_with fail
                  rw [← Int.natCast_add t l]
                  refine (HM.out (t + l) _ (by have := HTL.out; omega)).mono ?_
                  rintro e w3 ⟨rfl, n6, rfl⟩
                  have h5 : decide (cash < (mny q a 0 (t + l) : Int)) = true := decide_eq_true HMo.out
                  go_wp2
                  go_ret
                  exact ⟨rfl, below_drewN HB2.out _⟩
          · have g1 : decide ((a : Int) ≤ cash) = true := decide_eq_true d1
            have g2 : decide (0 ≤ have_) = false := decide_eq_false d2
            clear d1 d2
            by_cases c1 : (q : Int) - (l : Int) ≤ (t : Int)
            · have h1 : decide ((q : Int) - (l : Int) ≤ (t : Int)) = true := decide_eq_true c1
              clear c1
              go_wp2
              go_ret
              exact ⟨rfl, below_drewN HB2.out _⟩
            · have h1 : decide ((q : Int) - (l : Int) ≤ (t : Int)) = false := decide_eq_false c1
              have h2 : (t : Int) + (l : Int) ≤ (q : Int) := by omega
              have HTL : Held (t + l < q - 0) := ⟨by omega⟩
              clear c1
              by_cases c2 : t + l < m
              · have h3 : decide ((t : Int) + (l : Int) < (m : Int)) = true := decide_eq_true (by omega)
                clear c2
                go_wp2
                go_ret
                exact ⟨rfl, below_drewN HB2.out _⟩
              · have h3 : decide ((t : Int) + (l : Int) < (m : Int)) = false := decide_eq_false (by omega)
                by_cases c3 : have_ < (t : Int) + (l : Int)
                · have h4 : decide (have_ < (t : Int) + (l : Int)) = true := decide_eq_true c3
                  clear c3 c2
                  go_wp2
                  go_ret
                  exact ⟨rfl, below_drewN HB2.out _⟩
                · have h4 : decide (have_ < (t : Int) + (l : Int)) = false := decide_eq_false c3
                  have HMo := Held.mk (HBe.out.most HL.out (Nat.zero_le _) HTL.out (by omega) (by omega))
                  clear c3 c2
                  go_wp2_with fail
                  rw [← Int.natCast_add t l]
                  refine (HM.out (t + l) _ (by have := HTL.out; omega)).mono ?_
                  rintro e w3 ⟨rfl, n6, rfl⟩
                  have h5 : decide (cash < (mny q a 0 (t + l) : Int)) = true := decide_eq_true HMo.out
                  go_wp2
                  go_ret
                  exact ⟨rfl, below_drewN HB2.out _⟩
        · have g1 : decide ((a : Int) ≤ cash) = false := decide_eq_false d1
          clear d1
          by_cases c1 : (q : Int) - (l : Int) ≤ (t : Int)
          · have h1 : decide ((q : Int) - (l : Int) ≤ (t : Int)) = true := decide_eq_true c1
            clear c1
            go_wp2
            go_ret
            exact ⟨rfl, below_drewN HB2.out _⟩
          · have h1 : decide ((q : Int) - (l : Int) ≤ (t : Int)) = false := decide_eq_false c1
            have h2 : (t : Int) + (l : Int) ≤ (q : Int) := by omega
            have HTL : Held (t + l < q - 0) := ⟨by omega⟩
            clear c1
            by_cases c2 : t + l < m
            · have h3 : decide ((t : Int) + (l : Int) < (m : Int)) = true := decide_eq_true (by omega)
              clear c2
              go_wp2
              go_ret
              exact ⟨rfl, below_drewN HB2.out _⟩
            · have h3 : decide ((t : Int) + (l : Int) < (m : Int)) = false := decide_eq_false (by omega)
              by_cases c3 : have_ < (t : Int) + (l : Int)
              · have h4 : decide (have_ < (t : Int) + (l : Int)) = true := decide_eq_true c3
                clear c3 c2
                go_wp2
                go_ret
                exact ⟨rfl, below_drewN HB2.out _⟩
              · have h4 : decide (have_ < (t : Int) + (l : Int)) = false := decide_eq_false c3
                have HMo := Held.mk (HBe.out.most HL.out (Nat.zero_le _) HTL.out (by omega) (by omega))
                clear c3 c2
                go_wp2_with fail
                rw [← Int.natCast_add t l]
                refine (HM.out (t + l) _ (by have := HTL.out; omega)).mono ?_
                rintro e w3 ⟨rfl, n6, rfl⟩
                have h5 : decide (cash < (mny q a 0 (t + l) : Int)) = true := decide_eq_true HMo.out
                go_wp2
                go_ret
                exact ⟨rfl, below_drewN HB2.out _⟩
end Prt
end Go.Proofs.Ytpbkmkclagikhaa
