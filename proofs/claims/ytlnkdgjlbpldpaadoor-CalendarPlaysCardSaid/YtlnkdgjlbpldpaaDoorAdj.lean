/- Calendar: Count, within, Adjust. -/
import Derived.Test.YtlnkdgjlbpldpaaDoorAdd
namespace Go.Proofs.YtlnkdgjlbpldpaaDoor
set_option linter.unusedVariables false
set_option linter.unusedSimpArgs false
namespace Cal
open Go.RowKit Mem Go.Proofs.YtlnkdgjlbpldpaaDoorW.PrintLast Go.Maps

def errArgV : Value := .iface 68 (.int .i64 1)
set_option maxHeartbeats 4000000 in
set_option maxRecDepth 100000 in
theorem count_in (g b : Nat) (wk : List Bool) (l : List Int) (x y : Int) (w : World) (hc : CalW w g b wk l) (hx : isD x) (hy : isD y) (hxy : x ≤ y) :
    Calls Tryd.prog 53 #[.pointer (some ⟨g, 0, none⟩), .int .i64 x, .int .i64 y] w fun e w' => e = .returned (.tuple #[.int .i64 (FB (busB wk l) (y - 1) - FB (busB wk l) (x - 1)), .nilIface]) ∧ Below w.heap.size w w' := by
  have HC := Held.mk hc
  have hdx : decide (1 ≤ x ∧ x ≤ 3652059) = true := decide_eq_true hx
  have hdy : decide (1 ≤ y ∧ y ≤ 3652059) = true := decide_eq_true hy
  obtain ⟨hx1, hx2⟩ := hx
  obtain ⟨hy1, hy2⟩ := hy
  clear hc
  go_enter Tryd.func53, Tryd.ntmps53
  go_wp2_with fail
  refine (isDay_any x w).mono ?_
  rintro e w1 ⟨rfl, rfl⟩
  rw [hdx]
  go_wp2_with fail
  refine (isDay_any y w).mono ?_
  rintro e w1 ⟨rfl, rfl⟩
  rw [hdy]
  go_wp2
  go_loopw [8, 9] (fun v u wr => ∃ (c d : Int), v = .int .i64 c ∧ u = .int .i64 d ∧ x ≤ d ∧ d ≤ y ∧ 0 ≤ c ∧ c ≤ d ∧ Held (c = FB (busB wk l) (d - 1) - FB (busB wk l) (x - 1)) ∧ Held (Below w.heap.size w wr))
    (fun _ u _ => (y - intOf u).toNat)
  case atStart => exact ⟨0, x, rfl, rfl, by omega, by omega, by omega, by omega, ⟨by omega⟩, ⟨Below.refl _ _⟩⟩
  case round =>
    obtain ⟨c, d, rfl, rfl, hd1, hd2, hc1, hc2, HF, HB⟩ := hrel
    by_cases hlt : d < y
    · go_wp2_with fail
      refine (business_any g b wk l d wr (HC.out.below HB.out)).mono ?_
      rintro e w1 ⟨rfl, hb1⟩
      have HB1 : Held (Below w.heap.size w w1) := ⟨HB.out.trans (hb1.mono HB.out.size)⟩
      clear hb1
      have HR : Held (busB wk l d = true ∨ busB wk l d = false) := ⟨by cases busB wk l d <;> simp⟩
      have Hp := Held.mk (FB_pred (busB wk l) d (by omega))
      rcases HR.out with hr | hr
      · have Hr := Held.mk hr
        rw [hr]
        clear hr HR
        go_wp2
        go_roundw
        case rel => exact ⟨c + 1, d + 1, by go_num, by go_num, by omega, by omega, by omega, by omega, ⟨by rw [show d + 1 - 1 = d from by omega, Hp.out, Hr.out, HF.out]; simp [bit]; omega⟩, HB1⟩
        case measure => simp [intOf]; omega
      · have Hr := Held.mk hr
        rw [hr]
        clear hr HR
        go_wp2
        go_roundw
        case rel => exact ⟨c, d + 1, rfl, by go_num, by omega, by omega, by omega, by omega, ⟨by rw [show d + 1 - 1 = d from by omega, Hp.out, Hr.out, HF.out]; simp [bit]⟩, HB1⟩
        case measure => simp [intOf]; omega
    · obtain rfl : d = y := by omega
      go_wp2
      go_ret2
      exact ⟨by rw [HF.out]; rfl, HB.out⟩

/-- Do two days lie in one month? -/
def sameM (n m : Int) : Prop := ∃ y mo d d', Right y mo d ∧ numI y mo d = n ∧ Right y mo d' ∧ numI y mo d' = m
theorem sameM_iff {y1 m1 d1 y2 m2 d2 n m : Int} (h1 : Right y1 m1 d1) (e1 : numI y1 m1 d1 = n) (h2 : Right y2 m2 d2) (e2 : numI y2 m2 d2 = m) : sameM n m ↔ (y1 = y2 ∧ m1 = m2) := by
  constructor
  · rintro ⟨y, mo, d, d', r1, f1, r2, f2⟩
    obtain ⟨rfl, rfl, _⟩ := r1.inj h1 (by rw [f1, e1])
    obtain ⟨rfl, rfl, _⟩ := r2.inj h2 (by rw [f2, e2])
    exact ⟨rfl, rfl⟩
  · rintro ⟨rfl, rfl⟩
    exact ⟨_, _, _, _, h1, e1, h2, e2⟩
/-- What within answers. -/
def withinRes (B : Int → Bool) (n s : Int) (w : World) (e : Ending) (w' : World) : Prop :=
  ∃ m, NextR B s n m ∧ 0 ≤ m ∧ m ≤ 3652060 ∧ Below w.heap.size w w' ∧ ((¬ isD m ∧ e = .returned (.tuple #[.int .i64 0, .bool false])) ∨ (isD m ∧ ∃ q : Bool, (q = true ↔ sameM n m) ∧ e = .returned (.tuple #[.int .i64 m, .bool q])))
set_option maxHeartbeats 4000000 in
set_option maxRecDepth 100000 in
theorem within_any (g b : Nat) (wk : List Bool) (l : List Int) (n s : Int) (w : World) (hc : CalW w g b wk l) (hs : s = 1 ∨ s = -1) (hn : isD n) :
    Calls Tryd.prog 73 #[.pointer (some ⟨g, 0, none⟩), .int .i64 n, .int .i64 s] w (withinRes (busB wk l) n s w) := by
  obtain ⟨hn1, hn2⟩ := hn
  go_enter Tryd.func73, Tryd.ntmps73
  go_wp2_with fail
  refine (next_any g b wk l n s w hc hs (by omega) (by omega)).mono ?_
  rintro e w1 ⟨m, rfl, hnx, hm0, hm1, hb1⟩
  have HX := Held.mk hnx
  have HB1 := Held.mk hb1
  have hs1 := hb1.size
  clear hnx hb1 hc
  go_wp2_with fail
  refine (isDay_any m w1).mono ?_
  rintro e w2 ⟨rfl, rfl⟩
  by_cases hd : 1 ≤ m ∧ m ≤ 3652059
  · rw [decide_eq_true hd]
    have Hd := Held.mk hd
    obtain ⟨hd1, hd2⟩ := hd
    go_wp2_with fail
    refine (date_any n w1 hn1 hn2).mono ?_
    rintro e w2 ⟨y1, m1, d1, rfl, hR1, hN1, hb2⟩
    have HB2 : Held (Below w.heap.size w w2) := ⟨HB1.out.trans (hb2.mono hs1)⟩
    have hs2 := hb2.size
    have HR1 := Held.mk hR1
    have HN1 := Held.mk hN1
    clear hb2 hR1 hN1
    go_wp2_with fail
    refine (date_any m w2 hd1 hd2).mono ?_
    rintro e w3 ⟨y2, m2, d2, rfl, hR2, hN2, hb3⟩
    have hs3 := hb3.size
    have HB3 : Held (Below w.heap.size w w3) := ⟨HB2.out.trans (hb3.mono (by omega))⟩
    have Hiff := Held.mk (sameM_iff HR1.out HN1.out hR2 hN2)
    clear hb3 hR2 hN2
    unfold Dt
    go_wp2_with fail
    have hN1 := (Blk.new w3 23 #[.int .i64 y1, .int .i64 m1, .int .i64 d1]).alloc (.cells #[.int .i64 y2, .int .i64 m2, .int .i64 d2] 23)
    have hN2 := Blk.new (w3.alloc (.cells #[.int .i64 y1, .int .i64 m1, .int .i64 d1] 23)) 23 #[.int .i64 y2, .int .i64 m2, .int .i64 d2]
    have HB4 : Held (Below w.heap.size w ((w3.alloc (.cells #[.int .i64 y1, .int .i64 m1, .int .i64 d1] 23)).alloc (.cells #[.int .i64 y2, .int .i64 m2, .int .i64 d2] 23))) := ⟨((HB3.out.alloc (by omega) _).alloc (by simp; omega) _)⟩
    simp only [World.size_alloc] at hN2
    generalize (w3.alloc (.cells #[.int .i64 y1, .int .i64 m1, .int .i64 d1] 23)).alloc (.cells #[.int .i64 y2, .int .i64 m2, .int .i64 d2] 23) = w4 at *
    have k0 := hN1.cell 0
    have k1 := hN1.cell 1
    have j0 := hN2.cell 0
    have j1 := hN2.cell 1
    simp at k0 k1 j0 j1
    clear hN1 hN2
    by_cases hy : y1 = y2
    · have hby : (y1 == y2) = true := by simp [hy]
      by_cases hmo : m1 = m2
      · have hbm : (m1 == m2) = true := by simp [hmo]
        have Hq : Held (sameM n m) := ⟨Hiff.out.2 ⟨hy, hmo⟩⟩
        clear hy hmo Hiff
        go_quiet (fail)
        go_wp2
        go_ret2
        exact ⟨m, HX.out, hm0, hm1, below_drewN HB4.out _, .inr ⟨Hd.out, true, by simp [Hq.out], rfl⟩⟩
      · have hbm : (m1 == m2) = false := by simp [hmo]
        have Hq : Held (¬ sameM n m) := ⟨fun h => hmo (Hiff.out.1 h).2⟩
        clear hy hmo Hiff
        go_quiet (fail)
        go_wp2
        go_ret2
        exact ⟨m, HX.out, hm0, hm1, below_drewN HB4.out _, .inr ⟨Hd.out, false, by simp [Hq.out], rfl⟩⟩
    · have hby : (y1 == y2) = false := by simp [hy]
      have Hq : Held (¬ sameM n m) := ⟨fun h => hy (Hiff.out.1 h).1⟩
      clear hy Hiff
      go_quiet (fail)
      go_wp2
      go_ret2
      exact ⟨m, HX.out, hm0, hm1, below_drewN HB4.out _, .inr ⟨Hd.out, false, by simp [Hq.out], rfl⟩⟩
  · rw [decide_eq_false hd]
    have Hd := Held.mk hd
    clear hd
    go_wp2
    go_ret2
    exact ⟨m, HX.out, hm0, hm1, HB1.out, .inl ⟨Hd.out, rfl⟩⟩

/-- What Adjust answers by a convention of the four. -/
def adjRes (B : Int → Bool) (n c : Int) (w : World) (e : Ending) (w' : World) : Prop :=
  Below w.heap.size w w' ∧ ∃ m, NextR B (if c < 2 then 1 else -1) n m ∧ 0 ≤ m ∧ m ≤ 3652060 ∧
    if (c = 0 ∨ c = 2) then (isD m ∧ e = .returned (.tuple #[.int .i64 m, .nilIface])) ∨ (¬ isD m ∧ e = .returned (.tuple #[.int .i64 0, noDayV]))
    else (isD m ∧ sameM n m ∧ e = .returned (.tuple #[.int .i64 m, .nilIface])) ∨ (¬ (isD m ∧ sameM n m) ∧ ∃ m', NextR B (if c < 2 then -1 else 1) n m' ∧ 0 ≤ m' ∧ m' ≤ 3652060 ∧
      ((isD m' ∧ e = .returned (.tuple #[.int .i64 m', .nilIface])) ∨ (¬ isD m' ∧ e = .returned (.tuple #[.int .i64 0, noDayV]))))

set_option maxHeartbeats 4000000 in
set_option maxRecDepth 100000 in
theorem adjust_any (g b : Nat) (wk : List Bool) (l : List Int) (n c : Int) (w : World) (hc : CalW w g b wk l) (hn : isD n) (hcv : c = 0 ∨ c = 1 ∨ c = 2 ∨ c = 3) :
    Calls Tryd.prog 52 #[.pointer (some ⟨g, 0, none⟩), .int .i64 n, .int .i64 c] w (adjRes (busB wk l) n c w) := by
  have HC := Held.mk hc
  have hdn : decide (1 ≤ n ∧ n ≤ 3652059) = true := decide_eq_true hn
  have Hn := Held.mk hn
  obtain ⟨hn1, hn2⟩ := hn
  clear hc
  rcases hcv with rfl | rfl | rfl | rfl
  · go_enter Tryd.func52, Tryd.ntmps52
    go_wp2_with fail
    refine (isDay_any n w).mono ?_
    rintro e w1 ⟨rfl, rfl⟩
    rw [hdn]
    go_wp2_with fail
    refine (next_any g b wk l n 1 w HC.out (.inl rfl) (by omega) (by omega)).mono ?_
    rintro e w2 ⟨m, rfl, hnx, hm0, hm1, hb2⟩
    have HX := Held.mk hnx
    have HB2 := Held.mk hb2
    clear hnx hb2
    go_wp2_with fail
    refine (isDay_any m w2).mono ?_
    rintro e w3 ⟨rfl, rfl⟩
    by_cases hd : 1 ≤ m ∧ m ≤ 3652059
    · rw [decide_eq_true hd]
      have Hd := Held.mk hd
      clear hd
      go_wp2
      go_ret2
      exact ⟨HB2.out, m, HX.out, hm0, hm1, .inl ⟨Hd.out, rfl⟩⟩
    · rw [decide_eq_false hd]
      have Hd := Held.mk hd
      clear hd
      go_wp2_with fail
      refine (noDay_any _).mono ?_
      rintro e w9 ⟨rfl, rfl⟩
      go_wp2
      go_ret2
      exact ⟨HB2.out, m, HX.out, hm0, hm1, .inr ⟨Hd.out, rfl⟩⟩
  · go_enter Tryd.func52, Tryd.ntmps52
    go_wp2_with fail
    refine (isDay_any n w).mono ?_
    rintro e w1 ⟨rfl, rfl⟩
    rw [hdn]
    go_wp2_with fail
    refine (within_any g b wk l n 1 w HC.out (.inl rfl) Hn.out).mono ?_
    rintro e w2 ⟨m, hnx, hm0, hm1, hb2, hcase⟩
    have HX := Held.mk hnx
    have HB2 := Held.mk hb2
    have hs2 := hb2.size
    clear hnx hb2
    have key : (∃ v : Int, e = .returned (.tuple #[.int .i64 v, .bool false]) ∧ ¬ (isD m ∧ sameM n m)) ∨ (isD m ∧ sameM n m ∧ e = .returned (.tuple #[.int .i64 m, .bool true])) := by
      rcases hcase with ⟨hd, he⟩ | ⟨hd, q, hq, he⟩
      · exact .inl ⟨0, he, fun h => hd h.1⟩
      · cases q
        · exact .inl ⟨m, he, fun h => by have := hq.2 h.2; cases this⟩
        · exact .inr ⟨hd, hq.1 rfl, he⟩
    clear hcase
    rcases key with ⟨v, rfl, hno⟩ | ⟨hd, hsm, rfl⟩
    · have Hno := Held.mk hno
      clear hno
      go_wp2_with fail
      refine (next_any g b wk l n (-1) w2 (HC.out.below HB2.out) (.inr rfl) (by omega) (by omega)).mono ?_
      rintro e w3 ⟨m', rfl, hnx', hm0', hm1', hb3⟩
      have HX' := Held.mk hnx'
      have HB3 : Held (Below w.heap.size w w3) := ⟨HB2.out.trans (hb3.mono hs2)⟩
      clear hnx' hb3
      go_wp2_with fail
      refine (isDay_any m' w3).mono ?_
      rintro e w4 ⟨rfl, rfl⟩
      by_cases hd : 1 ≤ m' ∧ m' ≤ 3652059
      · rw [decide_eq_true hd]
        have Hd := Held.mk hd
        clear hd
        go_wp2
        go_ret2
        exact ⟨HB3.out, m, HX.out, hm0, hm1, .inr ⟨Hno.out, m', HX'.out, hm0', hm1', .inl ⟨Hd.out, rfl⟩⟩⟩
      · rw [decide_eq_false hd]
        have Hd := Held.mk hd
        clear hd
        go_wp2_with fail
        refine (noDay_any _).mono ?_
        rintro e w9 ⟨rfl, rfl⟩
        go_wp2
        go_ret2
        exact ⟨HB3.out, m, HX.out, hm0, hm1, .inr ⟨Hno.out, m', HX'.out, hm0', hm1', .inr ⟨Hd.out, rfl⟩⟩⟩
    · have Hd := Held.mk hd
      have Hs := Held.mk hsm
      clear hd hsm
      go_wp2
      go_ret2
      exact ⟨HB2.out, m, HX.out, hm0, hm1, .inl ⟨Hd.out, Hs.out, rfl⟩⟩
  · go_enter Tryd.func52, Tryd.ntmps52
    go_wp2_with fail
    refine (isDay_any n w).mono ?_
    rintro e w1 ⟨rfl, rfl⟩
    rw [hdn]
    go_wp2_with fail
    refine (next_any g b wk l n (-1) w HC.out (.inr rfl) (by omega) (by omega)).mono ?_
    rintro e w2 ⟨m, rfl, hnx, hm0, hm1, hb2⟩
    have HX := Held.mk hnx
    have HB2 := Held.mk hb2
    clear hnx hb2
    go_wp2_with fail
    refine (isDay_any m w2).mono ?_
    rintro e w3 ⟨rfl, rfl⟩
    by_cases hd : 1 ≤ m ∧ m ≤ 3652059
    · rw [decide_eq_true hd]
      have Hd := Held.mk hd
      clear hd
      go_wp2
      go_ret2
      exact ⟨HB2.out, m, HX.out, hm0, hm1, .inl ⟨Hd.out, rfl⟩⟩
    · rw [decide_eq_false hd]
      have Hd := Held.mk hd
      clear hd
      go_wp2_with fail
      refine (noDay_any _).mono ?_
      rintro e w9 ⟨rfl, rfl⟩
      go_wp2
      go_ret2
      exact ⟨HB2.out, m, HX.out, hm0, hm1, .inr ⟨Hd.out, rfl⟩⟩
  · go_enter Tryd.func52, Tryd.ntmps52
    go_wp2_with fail
    refine (isDay_any n w).mono ?_
    rintro e w1 ⟨rfl, rfl⟩
    rw [hdn]
    go_wp2_with fail
    refine (within_any g b wk l n (-1) w HC.out (.inr rfl) Hn.out).mono ?_
    rintro e w2 ⟨m, hnx, hm0, hm1, hb2, hcase⟩
    have HX := Held.mk hnx
    have HB2 := Held.mk hb2
    have hs2 := hb2.size
    clear hnx hb2
    have key : (∃ v : Int, e = .returned (.tuple #[.int .i64 v, .bool false]) ∧ ¬ (isD m ∧ sameM n m)) ∨ (isD m ∧ sameM n m ∧ e = .returned (.tuple #[.int .i64 m, .bool true])) := by
      rcases hcase with ⟨hd, he⟩ | ⟨hd, q, hq, he⟩
      · exact .inl ⟨0, he, fun h => hd h.1⟩
      · cases q
        · exact .inl ⟨m, he, fun h => by have := hq.2 h.2; cases this⟩
        · exact .inr ⟨hd, hq.1 rfl, he⟩
    clear hcase
    rcases key with ⟨v, rfl, hno⟩ | ⟨hd, hsm, rfl⟩
    · have Hno := Held.mk hno
      clear hno
      go_wp2_with fail
      refine (next_any g b wk l n 1 w2 (HC.out.below HB2.out) (.inl rfl) (by omega) (by omega)).mono ?_
      rintro e w3 ⟨m', rfl, hnx', hm0', hm1', hb3⟩
      have HX' := Held.mk hnx'
      have HB3 : Held (Below w.heap.size w w3) := ⟨HB2.out.trans (hb3.mono hs2)⟩
      clear hnx' hb3
      go_wp2_with fail
      refine (isDay_any m' w3).mono ?_
      rintro e w4 ⟨rfl, rfl⟩
      by_cases hd : 1 ≤ m' ∧ m' ≤ 3652059
      · rw [decide_eq_true hd]
        have Hd := Held.mk hd
        clear hd
        go_wp2
        go_ret2
        exact ⟨HB3.out, m, HX.out, hm0, hm1, .inr ⟨Hno.out, m', HX'.out, hm0', hm1', .inl ⟨Hd.out, rfl⟩⟩⟩
      · rw [decide_eq_false hd]
        have Hd := Held.mk hd
        clear hd
        go_wp2_with fail
        refine (noDay_any _).mono ?_
        rintro e w9 ⟨rfl, rfl⟩
        go_wp2
        go_ret2
        exact ⟨HB3.out, m, HX.out, hm0, hm1, .inr ⟨Hno.out, m', HX'.out, hm0', hm1', .inr ⟨Hd.out, rfl⟩⟩⟩
    · have Hd := Held.mk hd
      have Hs := Held.mk hsm
      clear hd hsm
      go_wp2
      go_ret2
      exact ⟨HB2.out, m, HX.out, hm0, hm1, .inl ⟨Hd.out, Hs.out, rfl⟩⟩
end Cal
end Go.Proofs.YtlnkdgjlbpldpaaDoor
