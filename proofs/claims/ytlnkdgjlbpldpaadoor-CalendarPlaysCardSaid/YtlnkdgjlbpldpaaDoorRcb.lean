/- The document's calendar: Business, Near, Count, Add. -/
import Derived.Test.YtlnkdgjlbpldpaaDoorRef
import Derived.Test.YtlnkdgjlbpldpaaDoorAdj
namespace Go.Proofs.YtlnkdgjlbpldpaaDoor
set_option linter.unusedVariables false
set_option linter.unusedSimpArgs false
namespace Cal
open Go.RowKit Mem Go.Proofs.YtlnkdgjlbpldpaaDoorW.PrintLast

/-- The list of further free days, in memory. -/
def Lst (w : World) (A : Option Addr) (n : Nat) (xs : List Int) : Prop := RdN w (fun k => k < w.heap.size) .i64 A n xs
theorem Lst.below {w w' : World} {A : Option Addr} {n : Nat} {xs : List Int} (h : Lst w A n xs) (hb : Below w.heap.size w w') : Lst w' A n xs :=
  RdV.mono (RdN.keep h (Keep.of_below hb (fun _ => False)) (fun _ _ h => h)) (fun k hk => Nat.lt_of_lt_of_le hk hb.size)
def calV (b0 b1 b2 b3 b4 b5 b6 : Bool) (A : Option Addr) (n c : Nat) : Value := .agg #[.bool b0, .bool b1, .bool b2, .bool b3, .bool b4, .bool b5, .bool b6, .slice A n c]
theorem contains_no {xs : List Int} {d : Int} {n : Nat} (hl : xs.length = n) (h : ∀ i, i < n → xs.getD i 0 ≠ d) : xs.contains d = false := by
  rw [List.contains_eq_any_beq]
  apply Bool.eq_false_iff.2
  intro ha
  rw [List.any_eq_true] at ha
  obtain ⟨x, hx, he⟩ := ha
  obtain ⟨i, hi, rfl⟩ := List.getElem_of_mem hx
  have := h i (by omega)
  rw [List.getD_eq_getElem?_getD, List.getElem?_eq_getElem hi] at this
  exact this (beq_iff_eq.1 he).symm
theorem contains_yes {xs : List Int} {d : Int} {i : Nat} (hi : i < xs.length) (h : xs.getD i 0 = d) : xs.contains d = true := by
  rw [List.getD_eq_getElem?_getD, List.getElem?_eq_getElem hi] at h
  rw [List.contains_iff_mem, ← h]
  exact List.getElem_mem hi
set_option maxHeartbeats 8000000 in
set_option maxRecDepth 100000 in
theorem rBus_any (b0 b1 b2 b3 b4 b5 b6 : Bool) (A : Option Addr) (n c : Nat) (xs : List Int) (d : Int) (w : World) (hr : Lst w A n xs) (hn : n ≤ 17592186043904) :
    Calls Tryd.prog 55 #[calV b0 b1 b2 b3 b4 b5 b6 A n c, .int .i64 d] w fun e w' => e = .returned (.bool (busB [b0, b1, b2, b3, b4, b5, b6] xs d)) ∧ Below w.heap.size w w' := by
  unfold calV
  have HB : Held (Below w.heap.size w (w.alloc (.cells #[.bool b0, .bool b1, .bool b2, .bool b3, .bool b4, .bool b5, .bool b6, .slice A n c] 55))) := ⟨(Below.refl _ _).alloc (Nat.le_refl _) _⟩
  have Hr := Held.mk (hr.below HB.out)
  have Hlen := Held.mk (RdN.len hr)
  have hN := Blk.new w 55 #[.bool b0, .bool b1, .bool b2, .bool b3, .bool b4, .bool b5, .bool b6, .slice A n c]
  have k7 : (w.alloc (.cells #[.bool b0, .bool b1, .bool b2, .bool b3, .bool b4, .bool b5, .bool b6, .slice A n c] 55)).cell? ⟨w.heap.size, 7, none⟩ = some (.slice A n c) := hN.cell 7
  clear hr
  by_cases hd : 1 ≤ d ∧ d ≤ 3652059
  · have hD : decide (1 ≤ d ∧ d ≤ 3652059) = true := decide_eq_true hd
    obtain ⟨hd1, hd2⟩ := hd
    obtain ⟨k, hk⟩ : ∃ k : Nat, (d - 1).tmod 7 = (k : Int) := ⟨((d - 1) % 7).toNat, by rw [Int.tmod_eq_emod_of_nonneg (by omega)]; omega⟩
    have hk7 : k < 7 := by rw [Int.tmod_eq_emod_of_nonneg (by omega)] at hk; omega
    have hk7i : (k : Int) < 7 := by omega
    have hkn : ((d + 6) % 7).toNat = k := by rw [Int.tmod_eq_emod_of_nonneg (by omega)] at hk; omega
    have hres : busB [b0, b1, b2, b3, b4, b5, b6] xs d = (!([b0, b1, b2, b3, b4, b5, b6].getD k false) && !(xs.contains d)) := by unfold busB; rw [hkn, hD]; simp
    have Hres := Held.mk hres
    have kk : (w.alloc (.cells #[.bool b0, .bool b1, .bool b2, .bool b3, .bool b4, .bool b5, .bool b6, .slice A n c] 55)).cell? ⟨w.heap.size, k, none⟩ = some (.bool ([b0, b1, b2, b3, b4, b5, b6].getD k false)) := by
      rw [hN.cell]
      have : k = 0 ∨ k = 1 ∨ k = 2 ∨ k = 3 ∨ k = 4 ∨ k = 5 ∨ k = 6 := by omega
      rcases this with rfl | rfl | rfl | rfl | rfl | rfl | rfl <;> rfl
    clear hres hkn hN
    generalize [b0, b1, b2, b3, b4, b5, b6].getD k false = bw at *
    have hbw : bw = true ∨ bw = false := by cases bw <;> simp
    go_enter Tryd.func55, Tryd.ntmps55
    go_wp2_with fail
    generalize w.alloc (.cells #[.bool b0, .bool b1, .bool b2, .bool b3, .bool b4, .bool b5, .bool b6, .slice A n c] 55) = w1 at *
    refine (rIs_any d w1).mono ?_
    rintro e wq ⟨rfl, rfl⟩
    rw [hD]
    rcases hbw with rfl | rfl
    · go_wp2
      go_ret
      exact ⟨by rw [Hres.out]; rfl, HB.out⟩
    · go_wp2
      go_loopw [5] (fun u wr => ∃ j : Nat, u = .int .i64 j ∧ j ≤ n ∧ Held (∀ i, i < j → xs.getD i 0 ≠ d) ∧ w1 = wr) (fun u _ => n - (intOf u).toNat)
      case atStart => exact ⟨0, rfl, Nat.zero_le _, ⟨fun i hi => by omega⟩, rfl⟩
      case round =>
        obtain ⟨j, rfl, hjn, HX, rfl⟩ := hrel
        by_cases hlt : j < n
        · obtain ⟨ad, rfl, hcell⟩ := RdN.at_ Hr.out hlt
          have HXL : Held (j < xs.length) := ⟨by rw [Hlen.out]; exact hlt⟩
          obtain ⟨x, hx⟩ : ∃ x, xs.getD j 0 = x := ⟨_, rfl⟩
          rw [hx] at hcell
          have Hx := Held.mk hx
          clear hx
          by_cases hxd : x = d
          · subst hxd
            have hbb : (x == x) = true := by simp
            have HF : Held (busB [b0, b1, b2, b3, b4, b5, b6] xs x = false) := ⟨by rw [Hres.out, contains_yes HXL.out Hx.out]; rfl⟩
            go_wp2
            go_ret
            exact ⟨by rw [HF.out]; rfl, HB.out⟩
          · have hbb : (x == d) = false := beq_eq_false_iff_ne.2 hxd
            have HX2 : Held (∀ i, i < j + 1 → xs.getD i 0 ≠ d) := ⟨fun i hi => by
              by_cases h : i < j
              · exact HX.out i h
              · rw [show i = j from by omega, Hx.out]; exact hxd⟩
            clear hxd
            go_wp2
            go_roundw
            case rel => exact ⟨j + 1, by go_num, by omega, HX2, by first | rfl | trivial⟩
            case measure => simp [intOf]; omega
        · obtain rfl : j = n := by omega
          have HF : Held (busB [b0, b1, b2, b3, b4, b5, b6] xs d = true) := ⟨by rw [Hres.out, contains_no Hlen.out HX.out]; rfl⟩
          go_wp2
          go_ret
          exact ⟨by rw [HF.out]; rfl, HB.out⟩
  · have hD : decide (1 ≤ d ∧ d ≤ 3652059) = false := decide_eq_false hd
    have HF : Held (busB [b0, b1, b2, b3, b4, b5, b6] xs d = false) := ⟨by unfold busB; rw [hD]; simp⟩
    clear hd k7 hN
    go_enter Tryd.func55, Tryd.ntmps55
    go_wp2_with fail
    refine (rIs_any d _).mono ?_
    rintro e wq ⟨rfl, rfl⟩
    rw [hD]
    go_wp2
    go_ret
    exact ⟨by rw [HF.out]; rfl, HB.out⟩
end Cal
end Go.Proofs.YtlnkdgjlbpldpaaDoor
