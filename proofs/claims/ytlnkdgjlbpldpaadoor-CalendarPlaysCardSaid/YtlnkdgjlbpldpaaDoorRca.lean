/- The document's calendar: Near, Count, Add; the program's errors. -/
import Derived.Test.YtlnkdgjlbpldpaaDoorRcb
namespace Go.Proofs.YtlnkdgjlbpldpaaDoor
set_option linter.unusedVariables false
set_option linter.unusedSimpArgs false
namespace Cal
open Go.RowKit Mem Go.Proofs.YtlnkdgjlbpldpaaDoorW.PrintLast

set_option maxHeartbeats 8000000 in
set_option maxRecDepth 100000 in
theorem rNear_any (b0 b1 b2 b3 b4 b5 b6 : Bool) (A : Option Addr) (n c : Nat) (xs : List Int) (d s : Int) (w : World) (hr : Lst w A n xs) (hn : n ≤ 17592186043904) (hs : s = 1 ∨ s = -1) (h0 : 0 ≤ d) (h1 : d ≤ 3652060) :
    Calls Tryd.prog 74 #[calV b0 b1 b2 b3 b4 b5 b6 A n c, .int .i64 d, .int .i64 s] w fun e w' => ∃ m, e = .returned (.int .i64 (if 1 ≤ m ∧ m ≤ 3652059 then m else 0)) ∧ NextR (busB [b0, b1, b2, b3, b4, b5, b6] xs) s d m ∧ 0 ≤ m ∧ m ≤ 3652060 ∧ Below w.heap.size w w' := by
  have HS := Held.mk hs
  have hs1 : -1 ≤ s := by omega
  have hs2 : s ≤ 1 := by omega
  clear hs
  have HB : Held (Below w.heap.size w (w.alloc (.cells #[.bool b0, .bool b1, .bool b2, .bool b3, .bool b4, .bool b5, .bool b6, .slice A n c] 55))) := ⟨(Below.refl _ _).alloc (Nat.le_refl _) _⟩
  have HL0 := Held.mk (hr.below HB.out)
  have HN0 := Held.mk (Blk.new w 55 #[.bool b0, .bool b1, .bool b2, .bool b3, .bool b4, .bool b5, .bool b6, .slice A n c])
  clear hr
  unfold calV
  go_enter Tryd.func74, Tryd.ntmps74
  go_wp2
  generalize w.alloc (.cells #[.bool b0, .bool b1, .bool b2, .bool b3, .bool b4, .bool b5, .bool b6, .slice A n c] 55) = w1 at *
  generalize hg : w.heap.size = g at *
  have Hg := Held.mk hg
  clear hg
  go_loopw [1] (fun v wr => ∃ (x : Int) (k : Nat), v = .int .i64 x ∧ 0 ≤ x ∧ x ≤ 3652060 ∧ Held (x = d + s * k ∧ ∀ j : Nat, j < k → isD (d + s * j) ∧ busB [b0, b1, b2, b3, b4, b5, b6] xs (d + s * j) = false) ∧ Held (Blk wr g 55 #[.bool b0, .bool b1, .bool b2, .bool b3, .bool b4, .bool b5, .bool b6, .slice A n c]) ∧ Held (Lst wr A n xs) ∧ Held (Below g w wr))
    (fun v _ => (if s = 1 then 3652061 - intOf v else intOf v + 1).toNat)
  case atStart => exact ⟨d, 0, rfl, h0, h1, ⟨by simp, fun j hj => by omega⟩, HN0, HL0, HB⟩
  case round =>
    obtain ⟨x, k, rfl, hx0, hx1, HK, HN, HL, HBr⟩ := hrel
    clear HN0 HL0 HB
    have k0 := HN.out.cell 0
    have k1 := HN.out.cell 1
    have k2 := HN.out.cell 2
    have k3 := HN.out.cell 3
    have k4 := HN.out.cell 4
    have k5 := HN.out.cell 5
    have k6 := HN.out.cell 6
    have k7 := HN.out.cell 7
    simp at k0 k1 k2 k3 k4 k5 k6 k7
    go_wp2_with fail
    refine (rIs_any x wr).mono ?_
    rintro e wq ⟨rfl, rfl⟩
    by_cases hd : 1 ≤ x ∧ x ≤ 3652059
    · rw [decide_eq_true hd]
      have Hd := Held.mk hd
      have HF : Held ((if 1 ≤ x ∧ x ≤ 3652059 then x else 0) = x) := ⟨if_pos hd⟩
      obtain ⟨hd1, hd2⟩ := hd
      go_wp2_with fail
      refine (rBus_any b0 b1 b2 b3 b4 b5 b6 A n c xs x wr HL.out hn).mono ?_
      rintro e w2 ⟨rfl, hb⟩
      have HB2 : Held (Below g w w2) := ⟨HBr.out.trans (hb.mono (by have := HBr.out.size; rw [Hg.out] at this; exact this))⟩
      have HN2 := Held.mk (HN.out.keep (Keep.of_below hb (fun _ => False)) (fun h => h))
      have HL2 := Held.mk (HL.out.below hb)
      clear hb HN HL HBr k0 k1 k2 k3 k4 k5 k6 k7
      have HR : Held (busB [b0, b1, b2, b3, b4, b5, b6] xs x = true ∨ busB [b0, b1, b2, b3, b4, b5, b6] xs x = false) := ⟨by cases busB [b0, b1, b2, b3, b4, b5, b6] xs x <;> simp⟩
      rcases HR.out with hr | hr
      · have Hr := Held.mk hr
        rw [hr]
        clear hr HR
        go_wp2_with fail
        refine (rIs_any x w2).mono ?_
        rintro e wq ⟨rfl, rfl⟩
        rw [decide_eq_true Hd.out]
        go_wp2
        go_ret
        exact ⟨x, by rw [HF.out]; rfl, ⟨k, HK.out.1, HK.out.2, fun _ => Hr.out⟩, hx0, hx1, by rw [Hg.out]; exact HB2.out⟩
      · have Hr := Held.mk hr
        rw [hr]
        clear hr HR
        go_wp2
        go_roundw
        case rel =>
          refine ⟨x + s, k + 1, by go_num, by omega, by omega, ⟨?_, fun j hj => ?_⟩, HN2, HL2, HB2⟩
          · rw [HK.out.1, Int.add_assoc, Int.natCast_add, Int.mul_add]; simp
          · by_cases hjk : j < k
            · exact HK.out.2 j hjk
            · rw [show j = k from by omega, ← HK.out.1]
              exact ⟨⟨hd1, hd2⟩, Hr.out⟩
        case measure =>
          simp only [intOf]
          rcases HS.out with rfl | rfl <;> simp <;> omega
    · rw [decide_eq_false hd]
      have Hd := Held.mk hd
      have HF : Held ((if 1 ≤ x ∧ x ≤ 3652059 then x else 0) = 0) := ⟨if_neg hd⟩
      clear hd
      go_wp2_with fail
      refine (rIs_any x wr).mono ?_
      rintro e wq ⟨rfl, rfl⟩
      rw [decide_eq_false Hd.out]
      go_wp2
      go_ret
      exact ⟨x, by rw [HF.out]; rfl, ⟨k, HK.out.1, HK.out.2, fun h => absurd h Hd.out⟩, hx0, hx1, by rw [Hg.out]; exact HBr.out⟩
set_option maxHeartbeats 8000000 in
set_option maxRecDepth 100000 in
theorem rCount_in (b0 b1 b2 b3 b4 b5 b6 : Bool) (A : Option Addr) (n c : Nat) (xs : List Int) (x y : Int) (w : World) (hr : Lst w A n xs) (hn : n ≤ 17592186043904) (hx : isD x) (hy : isD y) (hxy : x ≤ y) :
    Calls Tryd.prog 58 #[calV b0 b1 b2 b3 b4 b5 b6 A n c, .int .i64 x, .int .i64 y] w fun e w' => e = .returned (.tuple #[.int .i64 (FB (busB [b0, b1, b2, b3, b4, b5, b6] xs) (y - 1) - FB (busB [b0, b1, b2, b3, b4, b5, b6] xs) (x - 1)), .int .i64 0]) ∧ Below w.heap.size w w' := by
  have hdx : decide (1 ≤ x ∧ x ≤ 3652059) = true := decide_eq_true hx
  have hdy : decide (1 ≤ y ∧ y ≤ 3652059) = true := decide_eq_true hy
  obtain ⟨hx1, hx2⟩ := hx
  obtain ⟨hy1, hy2⟩ := hy
  have HB : Held (Below w.heap.size w (w.alloc (.cells #[.bool b0, .bool b1, .bool b2, .bool b3, .bool b4, .bool b5, .bool b6, .slice A n c] 55))) := ⟨(Below.refl _ _).alloc (Nat.le_refl _) _⟩
  have HL0 := Held.mk (hr.below HB.out)
  have HN0 := Held.mk (Blk.new w 55 #[.bool b0, .bool b1, .bool b2, .bool b3, .bool b4, .bool b5, .bool b6, .slice A n c])
  clear hr
  unfold calV
  go_enter Tryd.func58, Tryd.ntmps58
  go_wp2_with fail
  generalize w.alloc (.cells #[.bool b0, .bool b1, .bool b2, .bool b3, .bool b4, .bool b5, .bool b6, .slice A n c] 55) = w1 at *
  refine (rIs_any x w1).mono ?_
  rintro e wq ⟨rfl, rfl⟩
  rw [hdx]
  go_wp2_with fail
  refine (rIs_any y w1).mono ?_
  rintro e wq ⟨rfl, rfl⟩
  rw [hdy]
  go_wp2
  generalize hg : w.heap.size = g at *
  have Hg := Held.mk hg
  clear hg
  go_loopw [8, 9] (fun v u wr => ∃ (q d : Int), v = .int .i64 q ∧ u = .int .i64 d ∧ x ≤ d ∧ d ≤ y ∧ 0 ≤ q ∧ q ≤ d ∧ Held (q = FB (busB [b0, b1, b2, b3, b4, b5, b6] xs) (d - 1) - FB (busB [b0, b1, b2, b3, b4, b5, b6] xs) (x - 1)) ∧ Held (Blk wr g 55 #[.bool b0, .bool b1, .bool b2, .bool b3, .bool b4, .bool b5, .bool b6, .slice A n c]) ∧ Held (Lst wr A n xs) ∧ Held (Below g w wr))
    (fun _ u _ => (y - intOf u).toNat)
  case atStart => exact ⟨0, x, rfl, rfl, by omega, by omega, by omega, by omega, ⟨by omega⟩, HN0, HL0, HB⟩
  case round =>
    obtain ⟨q, d, rfl, rfl, hd1, hd2, hc1, hc2, HF, HN, HL, HBr⟩ := hrel
    clear HN0 HL0 HB
    have k0 := HN.out.cell 0
    have k1 := HN.out.cell 1
    have k2 := HN.out.cell 2
    have k3 := HN.out.cell 3
    have k4 := HN.out.cell 4
    have k5 := HN.out.cell 5
    have k6 := HN.out.cell 6
    have k7 := HN.out.cell 7
    simp at k0 k1 k2 k3 k4 k5 k6 k7
    by_cases hlt : d < y
    · go_wp2_with fail
      refine (rBus_any b0 b1 b2 b3 b4 b5 b6 A n c xs d wr HL.out hn).mono ?_
      rintro e w2 ⟨rfl, hb⟩
      have HB2 : Held (Below g w w2) := ⟨HBr.out.trans (hb.mono (by have := HBr.out.size; rw [Hg.out] at this; exact this))⟩
      have HN2 := Held.mk (HN.out.keep (Keep.of_below hb (fun _ => False)) (fun h => h))
      have HL2 := Held.mk (HL.out.below hb)
      clear hb HN HL HBr k0 k1 k2 k3 k4 k5 k6 k7
      have HR : Held (busB [b0, b1, b2, b3, b4, b5, b6] xs d = true ∨ busB [b0, b1, b2, b3, b4, b5, b6] xs d = false) := ⟨by cases busB [b0, b1, b2, b3, b4, b5, b6] xs d <;> simp⟩
      have Hp := Held.mk (FB_pred (busB [b0, b1, b2, b3, b4, b5, b6] xs) d (by omega))
      rcases HR.out with hr | hr
      · have Hr := Held.mk hr
        rw [hr]
        clear hr HR
        go_wp2
        go_roundw
        case rel => exact ⟨q + 1, d + 1, by go_num, by go_num, by omega, by omega, by omega, by omega, ⟨by rw [show d + 1 - 1 = d from by omega, Hp.out, Hr.out, HF.out]; simp [bit]; omega⟩, HN2, HL2, HB2⟩
        case measure => simp [intOf]; omega
      · have Hr := Held.mk hr
        rw [hr]
        clear hr HR
        go_wp2
        go_roundw
        case rel => exact ⟨q, d + 1, rfl, by go_num, by omega, by omega, by omega, by omega, ⟨by rw [show d + 1 - 1 = d from by omega, Hp.out, Hr.out, HF.out]; simp [bit]⟩, HN2, HL2, HB2⟩
        case measure => simp [intOf]; omega
    · obtain rfl : d = y := by omega
      go_wp2
      go_ret2
      exact ⟨by rw [HF.out]; rfl, by rw [Hg.out]; exact HBr.out⟩
set_option maxHeartbeats 8000000 in
set_option maxRecDepth 100000 in
theorem count_out (g : Nat) (x y : Int) (w : World) (h : ¬ (isD x ∧ isD y)) : Calls Tryd.prog 53 #[.pointer (some ⟨g, 0, none⟩), .int .i64 x, .int .i64 y] w fun e w' => e = .returned (.tuple #[.int .i64 0, noDayV]) ∧ Below w.heap.size w w' := by
  by_cases hx : 1 ≤ x ∧ x ≤ 3652059
  · have hy : ¬ (1 ≤ y ∧ y ≤ 3652059) := fun hy => h ⟨hx, hy⟩
    have Hx := Held.mk hx
    have Hy := Held.mk hy
    clear h hx hy
    go_enter Tryd.func53, Tryd.ntmps53
    go_wp2_with fail
    refine (isDay_any x _).mono ?_
    rintro e wq ⟨rfl, rfl⟩
    rw [decide_eq_true (show 1 ≤ x ∧ x ≤ 3652059 from Hx.out)]
    go_wp2_with fail
    refine (isDay_any y _).mono ?_
    rintro e wq ⟨rfl, rfl⟩
    rw [decide_eq_false Hy.out]
    go_wp2_with fail
    refine (noDay_any _).mono ?_
    rintro e wq ⟨rfl, rfl⟩
    go_wp2
    go_ret2
    exact ⟨rfl, Below.refl _ _⟩
  · have Hx := Held.mk hx
    clear h hx
    go_enter Tryd.func53, Tryd.ntmps53
    go_wp2_with fail
    refine (isDay_any x _).mono ?_
    rintro e wq ⟨rfl, rfl⟩
    rw [decide_eq_false Hx.out]
    go_wp2_with fail
    refine (noDay_any _).mono ?_
    rintro e wq ⟨rfl, rfl⟩
    go_wp2
    go_ret2
    exact ⟨rfl, Below.refl _ _⟩
set_option maxHeartbeats 8000000 in
set_option maxRecDepth 100000 in
theorem count_arg (g : Nat) (x y : Int) (w : World) (hx : isD x) (hy : isD y) (h : y < x) : Calls Tryd.prog 53 #[.pointer (some ⟨g, 0, none⟩), .int .i64 x, .int .i64 y] w fun e w' => e = .returned (.tuple #[.int .i64 0, errArgV]) ∧ Below w.heap.size w w' := by
  have Hx := Held.mk hx
  have Hy := Held.mk hy
  have hd : decide (y < x) = true := decide_eq_true h
  clear hx hy
  go_enter Tryd.func53, Tryd.ntmps53
  go_wp2_with fail
  refine (isDay_any x _).mono ?_
  rintro e wq ⟨rfl, rfl⟩
  rw [decide_eq_true (show 1 ≤ x ∧ x ≤ 3652059 from Hx.out)]
  go_wp2_with fail
  refine (isDay_any y _).mono ?_
  rintro e wq ⟨rfl, rfl⟩
  rw [decide_eq_true (show 1 ≤ y ∧ y ≤ 3652059 from Hy.out)]
  go_wp2
  go_ret2
  exact ⟨rfl, Below.refl _ _⟩
set_option maxHeartbeats 8000000 in
set_option maxRecDepth 100000 in
theorem rCount_out (b0 b1 b2 b3 b4 b5 b6 : Bool) (A : Option Addr) (n c : Nat) (xs : List Int) (x y : Int) (w : World) (h : ¬ (isD x ∧ isD y)) : Calls Tryd.prog 58 #[calV b0 b1 b2 b3 b4 b5 b6 A n c, .int .i64 x, .int .i64 y] w fun e w' => e = .returned (.tuple #[.int .i64 0, .int .i64 8]) ∧ Below w.heap.size w w' := by
  unfold calV
  by_cases hx : 1 ≤ x ∧ x ≤ 3652059
  · have hy : ¬ (1 ≤ y ∧ y ≤ 3652059) := fun hy => h ⟨hx, hy⟩
    have Hx := Held.mk hx
    have Hy := Held.mk hy
    clear h hx hy
    go_enter Tryd.func58, Tryd.ntmps58
    go_wp2_with fail
    refine (rIs_any x _).mono ?_
    rintro e wq ⟨rfl, rfl⟩
    rw [decide_eq_true (show 1 ≤ x ∧ x ≤ 3652059 from Hx.out)]
    go_wp2_with fail
    refine (rIs_any y _).mono ?_
    rintro e wq ⟨rfl, rfl⟩
    rw [decide_eq_false Hy.out]
    go_wp2
    go_ret2
    exact ⟨rfl, (Below.refl _ _).alloc (Nat.le_refl _) _⟩
  · have Hx := Held.mk hx
    clear h hx
    go_enter Tryd.func58, Tryd.ntmps58
    go_wp2_with fail
    refine (rIs_any x _).mono ?_
    rintro e wq ⟨rfl, rfl⟩
    rw [decide_eq_false Hx.out]
    go_wp2
    go_ret2
    exact ⟨rfl, (Below.refl _ _).alloc (Nat.le_refl _) _⟩
set_option maxHeartbeats 8000000 in
set_option maxRecDepth 100000 in
theorem rCount_arg (b0 b1 b2 b3 b4 b5 b6 : Bool) (A : Option Addr) (n c : Nat) (xs : List Int) (x y : Int) (w : World) (hx : isD x) (hy : isD y) (h : y < x) : Calls Tryd.prog 58 #[calV b0 b1 b2 b3 b4 b5 b6 A n c, .int .i64 x, .int .i64 y] w fun e w' => e = .returned (.tuple #[.int .i64 0, .int .i64 1]) ∧ Below w.heap.size w w' := by
  unfold calV
  have Hx := Held.mk hx
  have Hy := Held.mk hy
  have hd : decide (y < x) = true := decide_eq_true h
  clear hx hy
  go_enter Tryd.func58, Tryd.ntmps58
  go_wp2_with fail
  refine (rIs_any x _).mono ?_
  rintro e wq ⟨rfl, rfl⟩
  rw [decide_eq_true (show 1 ≤ x ∧ x ≤ 3652059 from Hx.out)]
  go_wp2_with fail
  refine (rIs_any y _).mono ?_
  rintro e wq ⟨rfl, rfl⟩
  rw [decide_eq_true (show 1 ≤ y ∧ y ≤ 3652059 from Hy.out)]
  go_wp2
  go_ret2
  exact ⟨rfl, (Below.refl _ _).alloc (Nat.le_refl _) _⟩
end Cal
end Go.Proofs.YtlnkdgjlbpldpaaDoor
