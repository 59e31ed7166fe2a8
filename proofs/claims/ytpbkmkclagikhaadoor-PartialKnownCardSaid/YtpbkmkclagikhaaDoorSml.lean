/- Every order of few numbers: walked. -/
import Derived.Test.YtpbkmkclagikhaaDoorOrs
import Derived.Test.YtpbkmkclagikhaaDoorAps
namespace Go.Proofs.YtpbkmkclagikhaaDoor
set_option linter.unusedVariables false
set_option linter.unusedSimpArgs false
namespace Prt
open Go.RowKit Mem Dvs Err Aps
theorem rd_calls (W : World) (ps : List Call) : RdCall (W.alloc (.cells (ps.flatMap Call.cells).toArray 53)) (fun k => k < (W.alloc (.cells (ps.flatMap Call.cells).toArray 53)).heap.size) (some ⟨W.heap.size, 0, none⟩) ps := by
  refine (rd_lit W (ps.flatMap Call.cells) 4 ps.length 53 ?_).mono (fun k hk => by subst hk; simp)
  induction ps with
  | nil => rfl
  | cons p ps ih => simp [List.flatMap_cons, ih, Call.cells]; omega
theorem orders_few (k1 k2 k3 k4 k5 k6 : Nat) (w W : World) (hg : Laid w) (hB : Below w.heap.size w W) (h1 : k1 ≤ 100) (h2 : k2 ≤ 100) (h3 : k3 ≤ 100) (h4 : k4 ≤ 100) (h5 : k5 ≤ 100) (h6 : k6 ≤ 100) :
    Calls Tryd.prog 6 #[.agg #[.int .i64 k1, .int .i64 k2, .int .i64 k3, .int .i64 k4], .agg #[.int .i64 k1, .int .i64 k2, .int .i64 k3, .int .i64 k4], .slice (some ⟨W.heap.size + 1, 0, none⟩) 2 2]
      ((W.alloc (.cells #[.int .i64 k1, .int .i64 k2, .int .i64 k3, .int .i64 k4] 22)).alloc (.cells #[.int .i64 0, .int .i64 k5, .int .i64 k6, .bool false, .int .i64 0, .int .i64 (9 - (k5 : Int)), .int .i64 (9 - (k6 : Int)), .bool true] 53)) fun e w' => e = .returned (.bool true) ∧ Below w.heap.size w w' := by
  have b1 := (hB.alloc hB.size (.cells #[.int .i64 k1, .int .i64 k2, .int .i64 k3, .int .i64 k4] 22))
  have b2 := b1.alloc b1.size (.cells #[.int .i64 0, .int .i64 k5, .int .i64 k6, .bool false, .int .i64 0, .int .i64 (9 - (k5 : Int)), .int .i64 (9 - (k6 : Int)), .bool true] 53)
  have hrd := rd_calls (W.alloc (.cells #[.int .i64 k1, .int .i64 k2, .int .i64 k3, .int .i64 k4] 22)) [⟨0, k5, k6, false⟩, ⟨0, 9 - (k5 : Int), 9 - (k6 : Int), true⟩]
  rw [show (W.alloc (.cells #[.int .i64 k1, .int .i64 k2, .int .i64 k3, .int .i64 k4] 22)).heap.size = W.heap.size + 1 from World.size_alloc _ _] at hrd
  refine (orders_any k1 k2 k3 k4 k1 k2 k3 k4 _ 2 [⟨0, k5, k6, false⟩, ⟨0, 9 - (k5 : Int), 9 - (k6 : Int), true⟩] _ (hg.below b2) (by omega) (by omega) (by omega) (by omega) (by omega) (by omega) (by omega) (by omega) hrd ?_ (by simp)).mono ?_
  · intro p hp
    simp at hp
    rcases hp with rfl | rfl
    · exact ⟨by simp, by simp only; omega, by simp only; omega⟩
    · exact ⟨by simp, by simp only; omega, by simp only; omega⟩
  · rintro e w2 ⟨rfl, hb⟩
    exact ⟨rfl, b2.trans (hb.mono b2.size)⟩
set_option maxHeartbeats 4000000 in
set_option maxRecDepth 100000 in
theorem small_any (w : World) (hg : Laid w) : Calls Tryd.prog 45 #[] w fun e w' => e = .returned (.bool true) ∧ Below w.heap.size w w' := by
  have HO := Held.mk (fun k1 k2 k3 k4 k5 k6 W hB => orders_few k1 k2 k3 k4 k5 k6 w W hg hB)
  have HB : Held (Below w.heap.size w w) := ⟨Below.refl _ _⟩
  clear hg
  go_enter Tryd.func45, Tryd.ntmps45
  go_wp2_with fail
  go_loopw [1] (fun i wr => ∃ (k1 : Nat), i = .int .i64 k1 ∧ k1 ≤ 8 ∧ Held (Below w.heap.size w wr)) (fun i _ => 8 - (intOf i).toNat)
  case atStart => exact ⟨1, rfl, by omega, HB⟩
  case round =>
    clear HB
    obtain ⟨k1, rfl, hk1, HB⟩ := hrel
    by_cases hlt1 : k1 < 8
    · have i1 : decide ((k1 : Int) < 8) = true := decide_eq_true (by omega)
      go_wp2_with fail
      go_loopw [2] (fun i wr => ∃ (k2 : Nat), i = .int .i64 k2 ∧ k2 ≤ 12 ∧ Held (Below w.heap.size w wr)) (fun i _ => 12 - (intOf i).toNat)
      case atStart => exact ⟨0, rfl, by omega, HB⟩
      case round =>
        clear HB
        obtain ⟨k2, rfl, hk2, HB⟩ := hrel
        by_cases hlt2 : k2 < 9
        · have i2 : decide ((k2 : Int) < 9) = true := decide_eq_true (by omega)
          go_wp2_with fail
          go_loopw [3] (fun i wr => ∃ (k3 : Nat), i = .int .i64 k3 ∧ k3 ≤ 5 ∧ Held (Below w.heap.size w wr)) (fun i _ => 5 - (intOf i).toNat)
          case atStart => exact ⟨1, rfl, by omega, HB⟩
          case round =>
            clear HB
            obtain ⟨k3, rfl, hk3, HB⟩ := hrel
            by_cases hlt3 : k3 < 5
            · have i3 : decide ((k3 : Int) < 5) = true := decide_eq_true (by omega)
              go_wp2_with fail
              go_loopw [4] (fun i wr => ∃ (k4 : Nat), i = .int .i64 k4 ∧ k4 ≤ 4 ∧ Held (Below w.heap.size w wr)) (fun i _ => 4 - (intOf i).toNat)
              case atStart => exact ⟨0, rfl, by omega, HB⟩
              case round =>
                clear HB
                obtain ⟨k4, rfl, hk4, HB⟩ := hrel
                by_cases hlt4 : k4 < 4
                · have i4 : decide ((k4 : Int) < 4) = true := decide_eq_true (by omega)
                  go_wp2_with fail
                  go_loopw [5] (fun i wr => ∃ (k5 : Nat), i = .int .i64 k5 ∧ k5 ≤ 9 ∧ Held (Below w.heap.size w wr)) (fun i _ => 9 - (intOf i).toNat)
                  case atStart => exact ⟨0, rfl, by omega, HB⟩
                  case round =>
                    clear HB
                    obtain ⟨k5, rfl, hk5, HB⟩ := hrel
                    by_cases hlt5 : k5 < 9
                    · have i5 : decide ((k5 : Int) < 9) = true := decide_eq_true (by omega)
                      go_wp2_with fail
                      go_loopw [6] (fun i wr => ∃ (k6 : Nat), i = .int .i64 k6 ∧ k6 ≤ 12 ∧ Held (Below w.heap.size w wr)) (fun i _ => 12 - (intOf i).toNat)
                      case atStart => exact ⟨0, rfl, by omega, HB⟩
                      case round =>
                        clear HB
                        obtain ⟨k6, rfl, hk6, HB⟩ := hrel
                        by_cases hlt6 : k6 < 10
                        · have i6 : decide ((k6 : Int) < 10) = true := decide_eq_true (by omega)
                          have HC := HO.out k1 k2 k3 k4 k5 k6 wr HB.out (by omega) (by omega) (by omega) (by omega) (by omega) (by omega)
                          have hw1 : IntKind.i64.wrap (9 - (k5 : Int)) = 9 - (k5 : Int) := IntWalk.i64_in _ ⟨by omega, by omega⟩
                          have hw2 : IntKind.i64.wrap (9 - (k6 : Int)) = 9 - (k6 : Int) := IntWalk.i64_in _ ⟨by omega, by omega⟩
                          go_wp2_with fail
                          refine HC.mono ?_
                          rintro e w2 ⟨rfl, hb2⟩
                          have HB2 := Held.mk hb2
                          clear hb2 hw1 hw2 HB
                          go_wp2_with fail
                          go_roundw
                          case rel => exact ⟨k6 + 3, by go_num, by omega, HB2⟩
                          case measure => simp [intOf]; omega
                        · have i6 : decide ((k6 : Int) < 10) = false := decide_eq_false_iff_not.2 (by omega)
                          go_wp2_with fail
                          go_roundw
                          case rel => exact ⟨k5 + 1, by go_num, by omega, HB⟩
                          case measure => simp [intOf]; omega
                    · have i5 : decide ((k5 : Int) < 9) = false := decide_eq_false_iff_not.2 (by omega)
                      go_wp2_with fail
                      go_roundw
                      case rel => exact ⟨k4 + 1, by go_num, by omega, HB⟩
                      case measure => simp [intOf]; omega
                · have i4 : decide ((k4 : Int) < 4) = false := decide_eq_false_iff_not.2 (by omega)
                  go_wp2_with fail
                  go_roundw
                  case rel => exact ⟨k3 + 1, by go_num, by omega, HB⟩
                  case measure => simp [intOf]; omega
            · have i3 : decide ((k3 : Int) < 5) = false := decide_eq_false_iff_not.2 (by omega)
              go_wp2_with fail
              go_roundw
              case rel => exact ⟨k2 + 4, by go_num, by omega, HB⟩
              case measure => simp [intOf]; omega
        · have i2 : decide ((k2 : Int) < 9) = false := decide_eq_false_iff_not.2 (by omega)
          go_wp2_with fail
          go_roundw
          case rel => exact ⟨k1 + 1, by go_num, by omega, HB⟩
          case measure => simp [intOf]; omega
    · have i1 : decide ((k1 : Int) < 8) = false := decide_eq_false_iff_not.2 (by omega)
      go_wp2_with fail
      go_ret
      exact ⟨rfl, HB.out⟩
end Prt
end Go.Proofs.YtpbkmkclagikhaaDoor
