/- Calendar: Target. -/
import Derived.Test.YtlnkdgjlbpldpaaDoorSho2
namespace Go.Proofs.YtlnkdgjlbpldpaaDoor
set_option linter.unusedVariables false
set_option linter.unusedSimpArgs false
namespace Cal
open Go.RowKit Mem Go.Proofs.YtlnkdgjlbpldpaaDoorW.PrintLast Go.Maps

/-- The six free days of a year. -/
def tdays (y : Int) : List Int := [numI y 1 1, easterI y - 2, easterI y + 1, numI y 5 1, numI y 12 25, numI y 12 25 + 1]
/-- .. of k years. -/
def tyears (y : Int) : Nat → List Int
  | 0 => []
  | k + 1 => tyears y k ++ tdays (y + k)
theorem tyears_len (y : Int) : ∀ k, (tyears y k).length = 6 * k
  | 0 => rfl
  | k + 1 => by unfold tyears; rw [List.length_append, tyears_len y k]; simp [tdays]; omega
theorem easterI_b (y : Int) (h1 : 1 ≤ y) (h2 : y ≤ 9999) : 3 ≤ easterI y ∧ easterI y ≤ 4000000 - 5 := by
  have hx := eX_b (y % 19) (eH y) (eL y) (by omega) (by omega) (by unfold eH; omega) (by unfold eH; omega) (by unfold eL; omega) (by unfold eL; omega)
  obtain ⟨M0, M1, D0, D1⟩ := eMD_b (eX y) (eM y) hx.1 hx.2 rfl
  have h3 := ysI_lo y h1
  have h4 := ysI_hi y (by omega)
  have h5 := ahead_hi (eM y)
  have h6 : 59 ≤ aheadI (eM y) := by
    have : eM y = 3 ∨ eM y = 4 ∨ eM y = 5 := by omega
    rcases this with h | h | h <;> rw [h] <;> decide
  have h7 := leapI_cases y
  unfold easterI numI
  unfold eD
  split <;> omega
theorem num_b (y m d : Int) (h1 : 1 ≤ y) (h2 : y ≤ 9999) (hd : 1 ≤ d) (hd2 : d ≤ 31) : 1 ≤ numI y m d ∧ numI y m d ≤ 4000000 - 5 := by
  have h3 := ysI_lo y h1
  have h4 := ysI_hi y (by omega)
  have h5 := ahead_hi m
  have h6 := ahead_lo m
  have h7 := leapI_cases y
  unfold numI
  split <;> omega
theorem tdays_wf (y : Int) (h1 : 1 ≤ y) (h2 : y ≤ 9999) : ∀ x ∈ tdays y, -10 ≤ x ∧ x ≤ 4000000 := by
  have := easterI_b y h1 h2
  have := num_b y 1 1 h1 h2 (by omega) (by omega)
  have := num_b y 5 1 h1 h2 (by omega) (by omega)
  have := num_b y 12 25 h1 h2 (by omega) (by omega)
  intro x hx
  simp only [tdays, List.mem_cons, List.not_mem_nil, or_false] at hx
  rcases hx with rfl | rfl | rfl | rfl | rfl | rfl <;> omega
def agg6 (l : List Int) : Value := .agg #[.int .i64 (l.getD 0 0), .int .i64 (l.getD 1 0), .int .i64 (l.getD 2 0), .int .i64 (l.getD 3 0), .int .i64 (l.getD 4 0), .int .i64 (l.getD 5 0)]
theorem index6 (a0 a1 a2 a3 a4 a5 : Int) (j : Nat) (hj : j < 6) (w : World) : (Instr.index 103 (.agg #[.int .i64 a0, .int .i64 a1, .int .i64 a2, .int .i64 a3, .int .i64 a4, .int .i64 a5]) (.int .i64 (j : Int))).run Tryd.prog w = .ok (.int .i64 ([a0, a1, a2, a3, a4, a5].getD j 0)) w := by
  have : j = 0 ∨ j = 1 ∨ j = 2 ∨ j = 3 ∨ j = 4 ∨ j = 5 := by omega
  rcases this with rfl | rfl | rfl | rfl | rfl | rfl <;> (refine Eq.trans ?_ (Eq.refl _); kernel_rfl)

set_option maxHeartbeats 4000000 in
set_option maxRecDepth 1000000 in
theorem target_in (f t : Int) (w : World) (h1 : 1 ≤ f) (h2 : f ≤ t) (h3 : t ≤ 9999) :
    Calls Tryd.prog 50 #[.int .i64 f, .int .i64 t] w fun e w' => ∃ g b, e = .returned (.tuple #[.pointer (some ⟨g, 0, none⟩), .nilIface]) ∧ w.heap.size ≤ g ∧ w.heap.size ≤ b ∧ CalW w' g b [false, false, false, false, false, true, true] (tyears f (t - f + 1).toNat) ∧ Below w.heap.size w w' := by
  have c1 : decide (f < 1) = false := decide_eq_false (by omega)
  have c2 : decide (9999 < f) = false := decide_eq_false (by omega)
  have c3 : decide (t < 1) = false := decide_eq_false (by omega)
  have c4 : decide (9999 < t) = false := decide_eq_false (by omega)
  have c5 : decide (t < f) = false := decide_eq_false (by omega)
  generalize hW0 : w.heap.size = W0 at *
  have HW0 := Held.mk hW0
  clear hW0
  go_enter Tryd.func50, Tryd.ntmps50
  go_wp2_with fail
  refine (new_any false false false false false true true none 0 0 [] w RdV.none_ (fun x hx => by cases hx) (by omega)).mono ?_
  rintro e w1 ⟨g, b, rfl, hg, hb, hc, hb1⟩
  rw [HW0.out] at hg hb hb1
  have HC1 := Held.mk hc
  have HB1 := Held.mk hb1
  clear hc hb1
  go_wp2
  go_loopw [7] (fun i wr => ∃ k : Nat, i = .int .i64 (f + k) ∧ f + k ≤ t + 1 ∧ Held (CalW wr g b [false, false, false, false, false, true, true] (tyears f k)) ∧ Held (Below W0 w wr)) (fun i _ => (t + 1 - intOf i).toNat)
  case atStart => exact ⟨0, by simp, by omega, HC1, HB1⟩
  case round =>
    obtain ⟨k, rfl, hk, HC, HB⟩ := hrel
    clear HC1 HB1
    have Hty : Held (tyears f (k + 1) = tyears f k ++ tdays (f + k)) := ⟨rfl⟩
    have Hlen := Held.mk (tyears_len f k)
    have hk2 : k ≤ 10000 := by omega
    obtain ⟨y, hy⟩ : ∃ y : Int, f + k = y := ⟨_, rfl⟩
    rw [hy] at hk Hty ⊢
    have Hy := Held.mk hy
    have hy1 : 1 ≤ y := by omega
    clear hy
    by_cases hlt : y ≤ t
    · go_wp2_with fail
      refine (easter_any y wr hy1 (by omega)).mono ?_
      rintro e w2 ⟨rfl, hb2⟩
      have hbe := easterI_b y hy1 (by omega)
      have hn1 := num_b y 1 1 hy1 (by omega) (by omega) (by omega)
      have hn5 := num_b y 5 1 hy1 (by omega) (by omega) (by omega)
      have hn12 := num_b y 12 25 hy1 (by omega) (by omega) (by omega)
      have Hwf := Held.mk (tdays_wf y hy1 (by omega))
      have Hd : Held (tdays y = [numI y 1 1, easterI y - 2, easterI y + 1, numI y 5 1, numI y 12 25, numI y 12 25 + 1]) := ⟨rfl⟩
      have HC2 := Held.mk (HC.out.below hb2)
      have HB2 : Held (Below W0 w w2) := ⟨HB.out.trans (hb2.mono (by have := HB.out.size; rw [HW0.out] at this; exact this))⟩
      clear hb2
      generalize easterI y = ea at *
      go_wp2_with fail
      refine (number_any y 1 1 w2 hy1 (by omega) (by omega) (by omega) (by omega) (by omega)).mono ?_
      rintro e w3 ⟨rfl, hb3⟩
      have HC3 := Held.mk (HC2.out.below hb3)
      have HB3 : Held (Below W0 w w3) := ⟨HB2.out.trans (hb3.mono (by have := HB2.out.size; rw [HW0.out] at this; exact this))⟩
      clear hb3
      go_wp2_with fail
      refine (number_any y 5 1 w3 hy1 (by omega) (by omega) (by omega) (by omega) (by omega)).mono ?_
      rintro e w4 ⟨rfl, hb4⟩
      have HC4 := Held.mk (HC3.out.below hb4)
      have HB4 : Held (Below W0 w w4) := ⟨HB3.out.trans (hb4.mono (by have := HB3.out.size; rw [HW0.out] at this; exact this))⟩
      clear hb4
      go_wp2_with fail
      refine (number_any y 12 25 w4 hy1 (by omega) (by omega) (by omega) (by omega) (by omega)).mono ?_
      rintro e w5 ⟨rfl, hb5⟩
      have HC5 := Held.mk (HC4.out.below hb5)
      have HB5 : Held (Below W0 w w5) := ⟨HB4.out.trans (hb5.mono (by have := HB4.out.size; rw [HW0.out] at this; exact this))⟩
      clear hb5 HC2 HC3 HC4 HB2 HB3 HB4
      generalize numI y 1 1 = n1 at *
      generalize numI y 5 1 = n5 at *
      generalize numI y 12 25 = n12 at *
      go_wp2
      go_loopw [63] (fun i wq => ∃ j : Nat, i = .int .i64 j ∧ j ≤ 6 ∧ Held (CalW wq g b [false, false, false, false, false, true, true] (tyears f k ++ (tdays y).take j)) ∧ Held (Below W0 w wq)) (fun i _ => 6 - (intOf i).toNat)
      case atStart => exact ⟨0, rfl, by omega, ⟨by simpa using HC5.out⟩, HB5⟩
      case round =>
        obtain ⟨j, rfl, hj, HCj, HBj⟩ := hrel
        clear HC5 HB5
        by_cases hj6 : j < 6
        · have hix := index6 n1 (ea - 2) (ea + 1) n5 n12 (n12 + 1) j hj6
          rw [← Hd.out] at hix
          have hxl : j < (tdays y).length := by simp [tdays]; omega
          have hxm : (tdays y).getD j 0 ∈ tdays y := by
            rw [List.getD_eq_getElem?_getD, List.getElem?_eq_getElem hxl]
            exact List.getElem_mem hxl
          have hxw := Hwf.out _ hxm
          have hx1 : (tdays y).take (j + 1) = (tdays y).take j ++ [(tdays y).getD j 0] := by
            rw [List.take_add_one, List.getD_eq_getElem?_getD, List.getElem?_eq_getElem hxl]; rfl
          have Hx1 := Held.mk hx1
          have htl : ((tdays y).take j).length ≤ 6 := by rw [List.length_take]; simp [tdays]; omega
          have hkey : keyOf Tryd.prog 3 (.int .i64 ((tdays y).getD j 0)) = some (.int .i64 ((tdays y).getD j 0)) := keyOf_int_mk Tryd.underlying3 (wf_small (by omega) hxw.2)
          generalize (tdays y).getD j 0 = x at *
          have hptr := HCj.out.ptr
          obtain ⟨m, hm, hown⟩ := HCj.out.map
          rw [List.length_append, Hlen.out] at hm
          have hml : m ≤ 100000 := by omega
          have hm' : m ≤ (tyears f k ++ (tdays y).take j).length := by rw [List.length_append, Hlen.out]; omega
          have Hown := Held.mk hown
          have Hm := Held.mk hm'
          clear hx1 hxw hown hm hm' hxm hxl htl
          go_wp2_with (first
            | (at_mapUpdate; refine wpList_mapUpdate_own _ rfl _ _ _ 99 rfl 3 102 law3 Tryd.underlying99 (unitElem (H := Unit)) b m _ rfl Hown.out (by unfold maxLen; omega) _ _ _ rfl rfl hkey _ [] unitElem_mk ?_; intro w6 hown6 hgrow6)
            | fail)
          have HC6 := Held.mk (HCj.out.put Hm.out hown6 hgrow6)
          have HB6 : Held (Below W0 w w6) := ⟨HBj.out.grown hgrow6 (by have := HBj.out.size; rw [HW0.out] at this; exact this) (fun i hi => by cases hi; exact hb)⟩
          go_roundw
          case rel => exact ⟨j + 1, by go_num, by omega, ⟨by rw [Hx1.out, ← List.append_assoc]; exact HC6.out⟩, HB6⟩
          case measure => simp [intOf]; omega
        · obtain rfl : j = 6 := by omega
          have HCf : Held (CalW wr g b [false, false, false, false, false, true, true] (tyears f (k + 1))) := ⟨by
            have := HCj.out
            rw [List.take_of_length_le (by simp [tdays])] at this
            rw [Hty.out]
            exact this⟩
          go_wp2
          go_roundw
          case rel => exact ⟨k + 1, by have := Hy.out; go_num, by have := Hy.out; omega, HCf, HBj⟩
          case measure => have := Hy.out; simp [intOf]; omega
    · go_wp2
      go_ret2
      refine ⟨g, rfl, hg, b, hb, ?_, HB.out⟩
      have := HC.out
      rwa [show k = (t - f + 1).toNat from by have := Hy.out; omega] at this
end Cal
end Go.Proofs.YtlnkdgjlbpldpaaDoor
