/- Calendar: Add, Count. -/
import Derived.Test.YtlnkdgjlbpldpaaDoorBus
namespace Go.Proofs.YtlnkdgjlbpldpaaDoor
set_option linter.unusedVariables false
set_option linter.unusedSimpArgs false
namespace Cal
open Go.RowKit Mem Go.Proofs.YtlnkdgjlbpldpaaDoorW.PrintLast Go.Maps

/-! Plain: the loop of Add. -/
/-- Steps up: at day x there are k steps to go of k0, from n. -/
structure UpI (B : Int → Bool) (n k0 x k : Int) : Prop where
  rng : 0 ≤ k ∧ k ≤ k0
  start : k = k0 → x = n
  moved : k < k0 → 0 ≤ x ∧ x ≤ 3652060 ∧ (isD x → B x = true ∧ FB B x = FB B n + (k0 - k)) ∧ (¬ isD x → FB B 3652059 < FB B n + (k0 - k))
structure DnI (B : Int → Bool) (n k0 x k : Int) : Prop where
  rng : k ≤ 0 ∧ k0 ≤ k
  start : k = k0 → x = n
  moved : k0 < k → 0 ≤ x ∧ x ≤ 3652060 ∧ (isD x → B x = true ∧ FB B (x - 1) = FB B (n - 1) + (k0 - k)) ∧ (¬ isD x → FB B (n - 1) + (k0 - k) < 0)
theorem UpI.step {B : Int → Bool} {n k0 x k m : Int} (h : UpI B n k0 x k) (hk : k ≠ 0) (hx : isD x) (hm : NextR B 1 (x + 1) m) : UpI B n k0 m (k - 1) := by
  have hk1 := h.rng
  obtain ⟨hx1, hx2⟩ := hx
  obtain ⟨n1, n2, n3, n4⟩ := hm.up (by omega) (by omega)
  have hf : FB B (m - 1) = FB B n + (k0 - k) := by
    rw [n3, show x + 1 - 1 = x from by omega]
    by_cases h0 : k = k0
    · rw [h.start h0, h0]; omega
    · exact ((h.moved (by omega)).2.2.1 ⟨hx1, hx2⟩).2
  have he := hm
  obtain ⟨_, _, _, he⟩ := he
  refine ⟨by omega, fun h0 => by omega, fun _ => ⟨by omega, n2, fun hd => ⟨he hd, ?_⟩, fun hd => ?_⟩⟩
  · have := FB_pred B m hd.1
    rw [he hd] at this
    simp only [bit] at this
    simp at this
    omega
  · have : m = 3652060 := by unfold isD at hd; omega
    rw [this] at hf
    rw [show (3652060 : Int) - 1 = 3652059 from rfl] at hf
    omega
theorem DnI.step {B : Int → Bool} {n k0 x k m : Int} (h : DnI B n k0 x k) (hk : k ≠ 0) (hx : isD x) (hm : NextR B (-1) (x + -1) m) : DnI B n k0 m (k + 1) := by
  have hk1 := h.rng
  obtain ⟨hx1, hx2⟩ := hx
  obtain ⟨n1, n2, n3, n4⟩ := hm.down (by omega) (by omega)
  have hf : FB B m = FB B (n - 1) + (k0 - k) := by
    rw [n3, show x + -1 = x - 1 from by omega]
    by_cases h0 : k = k0
    · rw [h.start h0, h0]; omega
    · exact ((h.moved (by omega)).2.2.1 ⟨hx1, hx2⟩).2
  have he := hm
  obtain ⟨_, _, _, he⟩ := he
  refine ⟨by omega, fun h0 => by omega, fun _ => ⟨n2, by omega, fun hd => ⟨he hd, ?_⟩, fun hd => ?_⟩⟩
  · have := FB_pred B m hd.1
    rw [he hd] at this
    simp only [bit] at this
    simp at this
    omega
  · have : m = 0 := by unfold isD at hd; omega
    rw [this, FB_zero] at hf
    omega
theorem UpI.end_ {B : Int → Bool} {n k0 x k : Int} (h : UpI B n k0 x k) (he : k = 0 ∨ ¬ isD x) : (isD x → AddR B n k0 (some x)) ∧ (¬ isD x → AddR B n k0 none) := by
  have hk1 := h.rng
  refine ⟨fun hd => ⟨fun y hy => ?_, fun hy => by cases hy⟩, fun hd => ⟨fun y hy => by (cases hy), fun _ => ?_⟩⟩
  · obtain rfl : x = y := by injection hy
    have h0 : k = 0 := he.elim id (fun h => absurd hd h)
    refine ⟨hd, fun hk => h.start (by omega), fun hk => ?_, fun hk => by omega⟩
    have := ((h.moved (by omega)).2.2.1 hd)
    rw [h0] at this
    exact ⟨this.1, by omega⟩
  · by_cases h0 : k = k0
    · exact .inl (by rw [← h.start h0]; exact hd)
    · have := ((h.moved (by omega)).2.2.2 hd)
      exact .inr (.inl ⟨by omega, by omega⟩)
theorem DnI.end_ {B : Int → Bool} {n k0 x k : Int} (h : DnI B n k0 x k) (he : k = 0 ∨ ¬ isD x) (hk0 : k0 < 0) : (isD x → AddR B n k0 (some x)) ∧ (¬ isD x → AddR B n k0 none) := by
  have hk1 := h.rng
  refine ⟨fun hd => ⟨fun y hy => ?_, fun hy => by cases hy⟩, fun hd => ⟨fun y hy => by (cases hy), fun _ => ?_⟩⟩
  · obtain rfl : x = y := by injection hy
    have h0 : k = 0 := he.elim id (fun h => absurd hd h)
    refine ⟨hd, fun hk => by omega, fun hk => by omega, fun hk => ?_⟩
    have := ((h.moved (by omega)).2.2.1 hd)
    rw [h0] at this
    exact ⟨this.1, by omega⟩
  · by_cases h0 : k = k0
    · exact .inl (by rw [← h.start h0]; exact hd)
    · have := ((h.moved (by omega)).2.2.2 hd)
      exact .inr (.inr ⟨by omega, by omega⟩)
/-- What Add answers. -/
def addRes (B : Int → Bool) (n k : Int) (w : World) (e : Ending) (w' : World) : Prop :=
  (∃ y, e = .returned (.tuple #[.int .i64 y, .nilIface]) ∧ AddR B n k (some y) ∧ Below w.heap.size w w') ∨ (e = .returned (.tuple #[.int .i64 0, noDayV]) ∧ AddR B n k none ∧ Below w.heap.size w w')

set_option maxHeartbeats 4000000 in
set_option maxRecDepth 100000 in
theorem add_any (g b : Nat) (wk : List Bool) (l : List Int) (n k : Int) (w : World) (hc : CalW w g b wk l) (hk : -9223372036854775808 ≤ k ∧ k ≤ 9223372036854775807) :
    Calls Tryd.prog 51 #[.pointer (some ⟨g, 0, none⟩), .int .i64 n, .int .i64 k] w (addRes (busB wk l) n k w) := by
  have HC := Held.mk hc
  clear hc
  by_cases hneg : k < 0
  · have HN := Held.mk hneg
    go_enter Tryd.func51, Tryd.ntmps51
    go_wp2
    go_loopw [1, 2] (fun v u wr => ∃ (x j : Int), v = .int .i64 x ∧ u = .int .i64 j ∧ j ≤ 0 ∧ k ≤ j ∧ Held (DnI (busB wk l) n k x j) ∧ Held (Below w.heap.size w wr))
      (fun _ u _ => (- intOf u).toNat)
    case atStart => exact ⟨n, k, rfl, rfl, by omega, by omega, ⟨⟨by omega, fun _ => rfl, fun h => by omega⟩⟩, ⟨Below.refl _ _⟩⟩
    case round =>
      obtain ⟨x, j, rfl, rfl, hj1, hj2, HI, HB⟩ := hrel
      by_cases hj0 : j = 0
      · have hb0 : (j != 0) = false := by simp [hj0]
        have Hend := Held.mk (HI.out.end_ (.inl hj0) HN.out)
        clear hj0
        go_wp2_with fail
        refine (isDay_any x wr).mono ?_
        rintro e w1 ⟨rfl, rfl⟩
        by_cases hd : 1 ≤ x ∧ x ≤ 3652059
        · have Hf := Held.mk (Hend.out.1 hd)
          rw [decide_eq_true hd]
          clear hd
          go_wp2
          go_ret2
          exact .inl ⟨x, rfl, Hf.out, HB.out⟩
        · have Hf := Held.mk (Hend.out.2 hd)
          rw [decide_eq_false hd]
          clear hd
          go_wp2_with fail
          refine (noDay_any _).mono ?_
          rintro e w9 ⟨rfl, rfl⟩
          go_wp2
          go_ret2
          exact .inr ⟨rfl, Hf.out, HB.out⟩
      · have hb0 : (j != 0) = true := by simp [hj0]
        have Hj0 := Held.mk hj0
        clear hj0
        go_wp2_with fail
        refine (isDay_any x wr).mono ?_
        rintro e w1 ⟨rfl, rfl⟩
        by_cases hd : 1 ≤ x ∧ x ≤ 3652059
        · rw [decide_eq_true hd]
          have Hd := Held.mk hd
          obtain ⟨hd1, hd2⟩ := hd
          go_wp2_with fail
          refine (next_any g b wk l (x + -1) (-1) wr (HC.out.below HB.out) (.inr rfl) (by omega) (by omega)).mono ?_
          rintro e w2 ⟨m, rfl, hn, hm0, hm1, hb2⟩
          have HI2 := Held.mk (HI.out.step Hj0.out Hd.out hn)
          have HB2 : Held (Below w.heap.size w w2) := ⟨HB.out.trans (hb2.mono HB.out.size)⟩
          have hjn : j < 0 := by have := Hj0.out; omega
          clear hn hb2 HI HB
          go_wp2
          go_roundw
          case rel => exact ⟨m, j + 1, rfl, by go_num, by omega, by omega, HI2, HB2⟩
          case measure => simp [intOf]; omega
        · have Hf := Held.mk ((HI.out.end_ (.inr hd) HN.out).2 hd)
          rw [decide_eq_false hd]
          have hdf : decide (1 ≤ x ∧ x ≤ 3652059) = false := decide_eq_false hd
          clear hd
          go_wp2_with fail
          refine (isDay_any x wr).mono ?_
          rintro e w1 ⟨rfl, rfl⟩
          rw [hdf]
          go_wp2_with fail
          refine (noDay_any _).mono ?_
          rintro e w9 ⟨rfl, rfl⟩
          go_wp2
          go_ret2
          exact .inr ⟨rfl, Hf.out, HB.out⟩
  · have hpos : 0 ≤ k := by omega
    go_enter Tryd.func51, Tryd.ntmps51
    go_wp2
    go_loopw [1, 2] (fun v u wr => ∃ (x j : Int), v = .int .i64 x ∧ u = .int .i64 j ∧ 0 ≤ j ∧ j ≤ k ∧ Held (UpI (busB wk l) n k x j) ∧ Held (Below w.heap.size w wr))
      (fun _ u _ => (intOf u).toNat)
    case atStart => exact ⟨n, k, rfl, rfl, by omega, by omega, ⟨⟨by omega, fun _ => rfl, fun h => by omega⟩⟩, ⟨Below.refl _ _⟩⟩
    case round =>
      obtain ⟨x, j, rfl, rfl, hj1, hj2, HI, HB⟩ := hrel
      by_cases hj0 : j = 0
      · have hb0 : (j != 0) = false := by simp [hj0]
        have Hend := Held.mk (HI.out.end_ (.inl hj0))
        clear hj0
        go_wp2_with fail
        refine (isDay_any x wr).mono ?_
        rintro e w1 ⟨rfl, rfl⟩
        by_cases hd : 1 ≤ x ∧ x ≤ 3652059
        · have Hf := Held.mk (Hend.out.1 hd)
          rw [decide_eq_true hd]
          clear hd
          go_wp2
          go_ret2
          exact .inl ⟨x, rfl, Hf.out, HB.out⟩
        · have Hf := Held.mk (Hend.out.2 hd)
          rw [decide_eq_false hd]
          clear hd
          go_wp2_with fail
          refine (noDay_any _).mono ?_
          rintro e w9 ⟨rfl, rfl⟩
          go_wp2
          go_ret2
          exact .inr ⟨rfl, Hf.out, HB.out⟩
      · have hb0 : (j != 0) = true := by simp [hj0]
        have Hj0 := Held.mk hj0
        clear hj0
        go_wp2_with fail
        refine (isDay_any x wr).mono ?_
        rintro e w1 ⟨rfl, rfl⟩
        by_cases hd : 1 ≤ x ∧ x ≤ 3652059
        · rw [decide_eq_true hd]
          have Hd := Held.mk hd
          obtain ⟨hd1, hd2⟩ := hd
          go_wp2_with fail
          refine (next_any g b wk l (x + 1) 1 wr (HC.out.below HB.out) (.inl rfl) (by omega) (by omega)).mono ?_
          rintro e w2 ⟨m, rfl, hn, hm0, hm1, hb2⟩
          have HI2 := Held.mk (HI.out.step Hj0.out Hd.out hn)
          have HB2 : Held (Below w.heap.size w w2) := ⟨HB.out.trans (hb2.mono HB.out.size)⟩
          have hjn : 0 < j := by have := Hj0.out; omega
          clear hn hb2 HI HB
          go_wp2
          go_roundw
          case rel => exact ⟨m, j - 1, rfl, by go_num, by omega, by omega, HI2, HB2⟩
          case measure => simp [intOf]; omega
        · have Hf := Held.mk ((HI.out.end_ (.inr hd)).2 hd)
          rw [decide_eq_false hd]
          have hdf : decide (1 ≤ x ∧ x ≤ 3652059) = false := decide_eq_false hd
          clear hd
          go_wp2_with fail
          refine (isDay_any x wr).mono ?_
          rintro e w1 ⟨rfl, rfl⟩
          rw [hdf]
          go_wp2_with fail
          refine (noDay_any _).mono ?_
          rintro e w9 ⟨rfl, rfl⟩
          go_wp2
          go_ret2
          exact .inr ⟨rfl, Hf.out, HB.out⟩
end Cal
end Go.Proofs.YtlnkdgjlbpldpaaDoor
