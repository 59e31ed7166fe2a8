/- The document's calendar: month, Adjust; the program's errors of Adjust. -/
import Derived.Test.YtlnkdgjlbpldpaaDoorRcd
namespace Go.Proofs.YtlnkdgjlbpldpaaDoor
set_option linter.unusedVariables false
set_option linter.unusedSimpArgs false
namespace Cal
open Go.RowKit Mem Go.Proofs.YtlnkdgjlbpldpaaDoorW.PrintLast

theorem NextR.uniq {B : Int → Bool} {s n m m' : Int} (h : NextR B s n m) (h' : NextR B s n m') : m = m' := by
  have key : ∀ {k k' : Nat} {m m' : Int}, m = n + s * k → (isD m → B m = true) → (∀ j : Nat, j < k' → isD (n + s * j) ∧ B (n + s * j) = false) → ¬ k < k' := fun {k k' m m'} e hb hk hl => by
    obtain ⟨h1, h2⟩ := hk k hl
    rw [← e] at h1 h2
    rw [hb h1] at h2
    cases h2
  obtain ⟨k, e, hk, hb⟩ := h
  obtain ⟨k', e', hk', hb'⟩ := h'
  have h1 := key (m' := m') e hb hk'
  have h2 := key (m' := m) e' hb' hk
  have : k = k' := by omega
  subst this
  rw [e, e']
open Classical in
/-- What Adjust answers, by a convention of the four. -/
def AdjO (B : Int → Bool) (n c : Int) (r : Option Int) : Prop := ∃ m, NextR B (if c < 2 then 1 else -1) n m ∧
  if c = 0 ∨ c = 2 then r = (if isD m then some m else none) else if isD m ∧ sameM n m then r = some m else ∃ m', NextR B (if c < 2 then -1 else 1) n m' ∧ r = (if isD m' then some m' else none)
theorem AdjO.uniq {B : Int → Bool} {n c : Int} {r s : Option Int} (h : AdjO B n c r) (h' : AdjO B n c s) : r = s := by
  obtain ⟨m, hm, h⟩ := h
  obtain ⟨m2, hm2, h'⟩ := h'
  obtain rfl := hm.uniq hm2
  by_cases hc : c = 0 ∨ c = 2
  · rw [if_pos hc] at h h'
    rw [h, h']
  · rw [if_neg hc] at h h'
    by_cases hs : isD m ∧ sameM n m
    · rw [if_pos hs] at h h'
      rw [h, h']
    · rw [if_neg hs] at h h'
      obtain ⟨a, ha, h⟩ := h
      obtain ⟨b, hb, h'⟩ := h'
      obtain rfl := ha.uniq hb
      rw [h, h']
theorem adj_opt {B : Int → Bool} {n c : Int} {w w' : World} {e : Ending} (h : adjRes B n c w e w') : ∃ r, (e = .returned (match r with | some y => .tuple #[.int .i64 y, .nilIface] | none => .tuple #[.int .i64 0, noDayV])) ∧ AdjO B n c r ∧ Below w.heap.size w w' := by
  obtain ⟨hb, m, hm, _, _, h⟩ := h
  by_cases hc : c = 0 ∨ c = 2
  · rw [if_pos hc] at h
    rcases h with ⟨hd, he⟩ | ⟨hd, he⟩
    · exact ⟨some m, he, ⟨m, hm, by rw [if_pos hc, if_pos hd]⟩, hb⟩
    · exact ⟨none, he, ⟨m, hm, by rw [if_pos hc, if_neg hd]⟩, hb⟩
  · rw [if_neg hc] at h
    rcases h with ⟨hd, hs, he⟩ | ⟨hno, m', hm', _, _, h⟩
    · exact ⟨some m, he, ⟨m, hm, by rw [if_neg hc, if_pos ⟨hd, hs⟩]⟩, hb⟩
    · rcases h with ⟨hd, he⟩ | ⟨hd, he⟩
      · exact ⟨some m', he, ⟨m, hm, by rw [if_neg hc, if_neg hno]; exact ⟨m', hm', by rw [if_pos hd]⟩⟩, hb⟩
      · exact ⟨none, he, ⟨m, hm, by rw [if_neg hc, if_neg hno]; exact ⟨m', hm', by rw [if_neg hd]⟩⟩, hb⟩

set_option maxHeartbeats 4000000 in
set_option maxRecDepth 100000 in
theorem rmonth_in (n m : Int) (w : World) (hn : isD n) (hm : isD m) : Calls Tryd.prog 75 #[.int .i64 n, .int .i64 m] w fun e w' => ∃ q : Bool, (q = true ↔ sameM n m) ∧ e = .returned (.bool q) ∧ Below w.heap.size w w' := by
  obtain ⟨hn1, hn2⟩ := hn
  obtain ⟨hm1, hm2⟩ := hm
  go_enter Tryd.func75, Tryd.ntmps75
  go_wp2_with fail
  refine (rOf_in n w hn1 hn2).mono ?_
  rintro e w2 ⟨y1, m1, d1, rfl, hR1, hN1, hb2⟩
  have HB2 := Held.mk hb2
  have hs2 := hb2.size
  have HR1 := Held.mk hR1
  have HN1 := Held.mk hN1
  clear hb2 hR1 hN1
  unfold Dt
  go_wp2_with fail
  have hN1 := Blk.new w2 23 #[.int .i64 y1, .int .i64 m1, .int .i64 d1]
  have HB3 : Held (Below w.heap.size w (w2.alloc (.cells #[.int .i64 y1, .int .i64 m1, .int .i64 d1] 23))) := ⟨HB2.out.alloc hs2 _⟩
  have hs3 : w2.heap.size < (w2.alloc (.cells #[.int .i64 y1, .int .i64 m1, .int .i64 d1] 23)).heap.size := by simp
  generalize w2.alloc (.cells #[.int .i64 y1, .int .i64 m1, .int .i64 d1] 23) = w3 at *
  refine (rOf_in m w3 hm1 hm2).mono ?_
  rintro e w4 ⟨y2, m2, d2, rfl, hR2, hN2, hb4⟩
  have hs4 := hb4.size
  have HB4 : Held (Below w.heap.size w w4) := ⟨HB3.out.trans (hb4.mono (by omega))⟩
  have Hiff := Held.mk (sameM_iff HR1.out HN1.out hR2 hN2)
  have hN1' := hN1.keep (Keep.of_below hb4 (fun _ => False)) (fun h => h)
  clear hb4 hR2 hN2 hN1
  unfold Dt
  have hN1 := hN1'.alloc (.cells #[.int .i64 y2, .int .i64 m2, .int .i64 d2] 23)
  have hN2 := Blk.new w4 23 #[.int .i64 y2, .int .i64 m2, .int .i64 d2]
  have HB5 : Held (Below w.heap.size w (w4.alloc (.cells #[.int .i64 y2, .int .i64 m2, .int .i64 d2] 23))) := ⟨HB4.out.alloc (by omega) _⟩
  have k0 : (w4.alloc (.cells #[.int .i64 y2, .int .i64 m2, .int .i64 d2] 23)).cell? ⟨w2.heap.size, 0, none⟩ = some (.int .i64 y1) := hN1.cell 0
  have k1 : (w4.alloc (.cells #[.int .i64 y2, .int .i64 m2, .int .i64 d2] 23)).cell? ⟨w2.heap.size, 1, none⟩ = some (.int .i64 m1) := hN1.cell 1
  have j0 : (w4.alloc (.cells #[.int .i64 y2, .int .i64 m2, .int .i64 d2] 23)).cell? ⟨w4.heap.size, 0, none⟩ = some (.int .i64 y2) := hN2.cell 0
  have j1 : (w4.alloc (.cells #[.int .i64 y2, .int .i64 m2, .int .i64 d2] 23)).cell? ⟨w4.heap.size, 1, none⟩ = some (.int .i64 m2) := hN2.cell 1
  clear hN1 hN2 hN1'
  by_cases hy : y1 = y2
  · have hby : (y1 == y2) = true := by simp [hy]
    by_cases hmo : m1 = m2
    · have hbm : (m1 == m2) = true := by simp [hmo]
      have Hq : Held (sameM n m) := ⟨Hiff.out.2 ⟨hy, hmo⟩⟩
      clear hy hmo Hiff
      go_wp2
      go_ret
      exact ⟨true, by simp [Hq.out], rfl, by first | exact HB5.out | exact below_drewN HB5.out _⟩
    · have hbm : (m1 == m2) = false := by simp [hmo]
      have Hq : Held (¬ sameM n m) := ⟨fun h => hmo (Hiff.out.1 h).2⟩
      clear hy hmo Hiff
      go_wp2
      go_ret
      exact ⟨false, by simp [Hq.out], rfl, by first | exact HB5.out | exact below_drewN HB5.out _⟩
  · have hby : (y1 == y2) = false := by simp [hy]
    have Hq : Held (¬ sameM n m) := ⟨fun h => hy (Hiff.out.1 h).1⟩
    clear hy Hiff
    go_wp2
    go_ret
    exact ⟨false, by simp [Hq.out], rfl, by first | exact HB5.out | exact below_drewN HB5.out _⟩

set_option maxHeartbeats 8000000 in
set_option maxRecDepth 100000 in
theorem adjust_out (g : Nat) (d k : Int) (w : World) (h : ¬ (1 ≤ d ∧ d ≤ 3652059)) : Calls Tryd.prog 52 #[.pointer (some ⟨g, 0, none⟩), .int .i64 d, .int .i64 k] w fun e w' => e = .returned (.tuple #[.int .i64 0, noDayV]) ∧ w = w' := by
  have H := Held.mk h
  clear h
  go_enter Tryd.func52, Tryd.ntmps52
  go_wp2_with fail
  refine (isDay_any d _).mono ?_
  rintro e wq ⟨rfl, rfl⟩
  rw [decide_eq_false H.out]
  go_wp2_with fail
  refine (noDay_any _).mono ?_
  rintro e wq ⟨rfl, rfl⟩
  go_wp2
  go_ret2
  exact ⟨rfl, rfl⟩
set_option maxHeartbeats 8000000 in
set_option maxRecDepth 100000 in
theorem adjust_arg (g : Nat) (d k : Int) (w : World) (hd : isD d) (h : k < 0 ∨ 3 < k) : Calls Tryd.prog 52 #[.pointer (some ⟨g, 0, none⟩), .int .i64 d, .int .i64 k] w fun e w' => e = .returned (.tuple #[.int .i64 0, errArgV]) ∧ w = w' := by
  have Hd := Held.mk hd
  have k0 : (k == 0) = false := beq_eq_false_iff_ne.2 (by omega)
  have k1 : (k == 1) = false := beq_eq_false_iff_ne.2 (by omega)
  have k2 : (k == 2) = false := beq_eq_false_iff_ne.2 (by omega)
  have k3 : (k == 3) = false := beq_eq_false_iff_ne.2 (by omega)
  clear h hd
  go_enter Tryd.func52, Tryd.ntmps52
  go_wp2_with fail
  refine (isDay_any d _).mono ?_
  rintro e wq ⟨rfl, rfl⟩
  rw [decide_eq_true (show 1 ≤ d ∧ d ≤ 3652059 from Hd.out)]
  go_wp2
  go_ret2
  exact ⟨rfl, rfl⟩
set_option maxHeartbeats 8000000 in
set_option maxRecDepth 100000 in
theorem rAdjust_out (b0 b1 b2 b3 b4 b5 b6 : Bool) (A : Option Addr) (n c : Nat) (xs : List Int) (d k : Int) (w : World) (h : ¬ (1 ≤ d ∧ d ≤ 3652059)) : Calls Tryd.prog 57 #[calV b0 b1 b2 b3 b4 b5 b6 A n c, .int .i64 d, .int .i64 k] w fun e w' => e = .returned (.tuple #[.int .i64 0, .int .i64 8]) ∧ Below w.heap.size w w' := by
  unfold calV
  have H := Held.mk h
  clear h
  go_enter Tryd.func57, Tryd.ntmps57
  go_wp2_with fail
  refine (rIs_any d _).mono ?_
  rintro e wq ⟨rfl, rfl⟩
  rw [decide_eq_false H.out]
  go_wp2
  go_ret2
  exact ⟨rfl, (Below.refl _ _).alloc (Nat.le_refl _) _⟩
set_option maxHeartbeats 8000000 in
set_option maxRecDepth 100000 in
theorem rAdjust_arg (b0 b1 b2 b3 b4 b5 b6 : Bool) (A : Option Addr) (n c : Nat) (xs : List Int) (d k : Int) (w : World) (hd : isD d) (h : k < 0 ∨ 3 < k) : Calls Tryd.prog 57 #[calV b0 b1 b2 b3 b4 b5 b6 A n c, .int .i64 d, .int .i64 k] w fun e w' => e = .returned (.tuple #[.int .i64 0, .int .i64 1]) ∧ Below w.heap.size w w' := by
  unfold calV
  have Hd := Held.mk hd
  have hc : decide (k < 0) = true ∨ decide (k < 0) = false ∧ decide (3 < k) = true := by simp only [decide_eq_true_eq, decide_eq_false_iff_not]; omega
  clear h hd
  rcases hc with h | ⟨h, h2⟩ <;>
  · go_enter Tryd.func57, Tryd.ntmps57
    go_wp2_with fail
    refine (rIs_any d _).mono ?_
    rintro e wq ⟨rfl, rfl⟩
    rw [decide_eq_true (show 1 ≤ d ∧ d ≤ 3652059 from Hd.out)]
    go_wp2
    go_ret2
    exact ⟨rfl, (Below.refl _ _).alloc (Nat.le_refl _) _⟩
set_option maxHeartbeats 8000000 in
set_option maxRecDepth 100000 in
theorem rAdjust_in (b0 b1 b2 b3 b4 b5 b6 : Bool) (A : Option Addr) (n c : Nat) (xs : List Int) (d k : Int) (w : World) (hr : Lst w A n xs) (hn : n ≤ 17592186043904) (hd : isD d) (hk : k = 0 ∨ k = 1 ∨ k = 2 ∨ k = 3) : Calls Tryd.prog 57 #[calV b0 b1 b2 b3 b4 b5 b6 A n c, .int .i64 d, .int .i64 k] w fun e w' => ∃ r, e = .returned (rAddV r) ∧ AdjO (busB [b0, b1, b2, b3, b4, b5, b6] xs) d k r ∧ Below w.heap.size w w' := by
  have HB : Held (Below w.heap.size w (w.alloc (.cells #[.bool b0, .bool b1, .bool b2, .bool b3, .bool b4, .bool b5, .bool b6, .slice A n c] 55))) := ⟨(Below.refl _ _).alloc (Nat.le_refl _) _⟩
  have HL := Held.mk (hr.below HB.out)
  have HN := Held.mk (Blk.new w 55 #[.bool b0, .bool b1, .bool b2, .bool b3, .bool b4, .bool b5, .bool b6, .slice A n c])
  have Hd := Held.mk hd
  obtain ⟨hd1, hd2⟩ := hd
  clear hr
  unfold calV
  rcases hk with rfl | rfl | rfl | rfl
  · go_enter Tryd.func57, Tryd.ntmps57
    go_wp2_with fail
    generalize w.alloc (.cells #[.bool b0, .bool b1, .bool b2, .bool b3, .bool b4, .bool b5, .bool b6, .slice A n c] 55) = w1 at *
    refine (rIs_any d w1).mono ?_
    rintro e wq ⟨rfl, rfl⟩
    rw [decide_eq_true (And.intro hd1 hd2)]
    generalize hg : w.heap.size = g at *
    have Hg := Held.mk hg
    clear hg
    have k0 := HN.out.cell 0
    have k1 := HN.out.cell 1
    have k2 := HN.out.cell 2
    have k3 := HN.out.cell 3
    have k4 := HN.out.cell 4
    have k5 := HN.out.cell 5
    have k6 := HN.out.cell 6
    have k7 := HN.out.cell 7
    simp at k0 k1 k2 k3 k4 k5 k6 k7
    go_wp2_with fail
    refine (rNear_any b0 b1 b2 b3 b4 b5 b6 A n c xs d 1 _ HL.out hn (.inl rfl) (by omega) (by omega)).mono ?_
    rintro e w2 ⟨m, rfl, hnx, hm0, hm1, hb⟩
    have HB2 : Held (Below g w w2) := ⟨HB.out.trans (hb.mono (by have := HB.out.size; rw [Hg.out] at this; exact this))⟩
    have HN2 := Held.mk (HN.out.keep (Keep.of_below hb (fun _ => False)) (fun h => h))
    have HL2 := Held.mk (HL.out.below hb)
    have HX2 := Held.mk hnx
    clear hb hnx HB HN HL k0 k1 k2 k3 k4 k5 k6 k7
    by_cases hm : 1 ≤ m ∧ m ≤ 3652059
    · have Hm := Held.mk hm
      have hz : (m == 0) = false := beq_eq_false_iff_ne.2 (by omega)
      rw [if_pos hm]
      clear hm
      go_wp2
      go_ret2
      exact ⟨some m, rfl, ⟨m, HX2.out, by rw [if_pos (by decide), if_pos (show isD m from Hm.out)]⟩, by rw [Hg.out]; exact HB2.out⟩
    · have Hm := Held.mk hm
      rw [if_neg hm]
      clear hm
      go_wp2
      go_ret2
      exact ⟨none, rfl, ⟨m, HX2.out, by rw [if_pos (by decide), if_neg (show ¬ isD m from Hm.out)]⟩, by rw [Hg.out]; exact HB2.out⟩
  · go_enter Tryd.func57, Tryd.ntmps57
    go_wp2_with fail
    generalize w.alloc (.cells #[.bool b0, .bool b1, .bool b2, .bool b3, .bool b4, .bool b5, .bool b6, .slice A n c] 55) = w1 at *
    refine (rIs_any d w1).mono ?_
    rintro e wq ⟨rfl, rfl⟩
    rw [decide_eq_true (And.intro hd1 hd2)]
    generalize hg : w.heap.size = g at *
    have Hg := Held.mk hg
    clear hg
    have k0 := HN.out.cell 0
    have k1 := HN.out.cell 1
    have k2 := HN.out.cell 2
    have k3 := HN.out.cell 3
    have k4 := HN.out.cell 4
    have k5 := HN.out.cell 5
    have k6 := HN.out.cell 6
    have k7 := HN.out.cell 7
    simp at k0 k1 k2 k3 k4 k5 k6 k7
    go_wp2_with fail
    refine (rNear_any b0 b1 b2 b3 b4 b5 b6 A n c xs d 1 _ HL.out hn (.inl rfl) (by omega) (by omega)).mono ?_
    rintro e w2 ⟨m, rfl, hnx, hm0, hm1, hb⟩
    have HB2 : Held (Below g w w2) := ⟨HB.out.trans (hb.mono (by have := HB.out.size; rw [Hg.out] at this; exact this))⟩
    have HN2 := Held.mk (HN.out.keep (Keep.of_below hb (fun _ => False)) (fun h => h))
    have HL2 := Held.mk (HL.out.below hb)
    have HX2 := Held.mk hnx
    clear hb hnx HB HN HL k0 k1 k2 k3 k4 k5 k6 k7
    by_cases hm : 1 ≤ m ∧ m ≤ 3652059
    · have Hm := Held.mk hm
      have hz : (m == 0) = false := beq_eq_false_iff_ne.2 (by omega)
      rw [if_pos hm]
      clear hm
      go_wp2_with fail
      refine (rmonth_in d m w2 Hd.out (show isD m from Hm.out)).mono ?_
      rintro e w3 ⟨q, hq, rfl, hb⟩
      have HB3 : Held (Below g w w3) := ⟨HB2.out.trans (hb.mono (by have := HB2.out.size; rw [Hg.out] at this; exact this))⟩
      have HN3 := Held.mk (HN2.out.keep (Keep.of_below hb (fun _ => False)) (fun h => h))
      have HL3 := Held.mk (HL2.out.below hb)
      have Hq := Held.mk hq
      clear hb hq HB2 HN2 HL2
      cases q
      · have k0 := HN3.out.cell 0
        have k1 := HN3.out.cell 1
        have k2 := HN3.out.cell 2
        have k3 := HN3.out.cell 3
        have k4 := HN3.out.cell 4
        have k5 := HN3.out.cell 5
        have k6 := HN3.out.cell 6
        have k7 := HN3.out.cell 7
        simp at k0 k1 k2 k3 k4 k5 k6 k7
        go_wp2_with fail
        refine (rNear_any b0 b1 b2 b3 b4 b5 b6 A n c xs d (-1) _ HL3.out hn (.inr rfl) (by omega) (by omega)).mono ?_
        rintro e w5 ⟨m', rfl, hnx, hm0, hm1, hb⟩
        have HB5 : Held (Below g w w5) := ⟨HB3.out.trans (hb.mono (by have := HB3.out.size; rw [Hg.out] at this; exact this))⟩
        have HN5 := Held.mk (HN3.out.keep (Keep.of_below hb (fun _ => False)) (fun h => h))
        have HL5 := Held.mk (HL3.out.below hb)
        have HX5 := Held.mk hnx
        clear hb hnx HB3 HN3 HL3 k0 k1 k2 k3 k4 k5 k6 k7
        by_cases hm' : 1 ≤ m' ∧ m' ≤ 3652059
        · have Hm' := Held.mk hm'
          have hz' : (m' == 0) = false := beq_eq_false_iff_ne.2 (by omega)
          rw [if_pos hm']
          clear hm'
          go_wp2
          go_ret2
          exact ⟨some m', rfl, ⟨m, HX2.out, by rw [if_neg (by decide), if_neg (fun h => by have := Hq.out.2 h.2; cases this)]; exact ⟨m', HX5.out, by rw [if_pos (show isD m' from Hm'.out)]⟩⟩, by rw [Hg.out]; exact HB5.out⟩
        · have Hm' := Held.mk hm'
          rw [if_neg hm']
          clear hm'
          go_wp2
          go_ret2
          exact ⟨none, rfl, ⟨m, HX2.out, by rw [if_neg (by decide), if_neg (fun h => by have := Hq.out.2 h.2; cases this)]; exact ⟨m', HX5.out, by rw [if_neg (show ¬ isD m' from Hm'.out)]⟩⟩, by rw [Hg.out]; exact HB5.out⟩
      · go_wp2
        go_ret2
        exact ⟨some m, rfl, ⟨m, HX2.out, by rw [if_neg (by decide), if_pos ⟨Hm.out, Hq.out.1 (by simp)⟩]⟩, by rw [Hg.out]; exact HB3.out⟩
    · have Hm := Held.mk hm
      rw [if_neg hm]
      clear hm
      have k0 := HN2.out.cell 0
      have k1 := HN2.out.cell 1
      have k2 := HN2.out.cell 2
      have k3 := HN2.out.cell 3
      have k4 := HN2.out.cell 4
      have k5 := HN2.out.cell 5
      have k6 := HN2.out.cell 6
      have k7 := HN2.out.cell 7
      simp at k0 k1 k2 k3 k4 k5 k6 k7
      go_wp2_with fail
      refine (rNear_any b0 b1 b2 b3 b4 b5 b6 A n c xs d (-1) _ HL2.out hn (.inr rfl) (by omega) (by omega)).mono ?_
      rintro e w5 ⟨m', rfl, hnx, hm0, hm1, hb⟩
      have HB5 : Held (Below g w w5) := ⟨HB2.out.trans (hb.mono (by have := HB2.out.size; rw [Hg.out] at this; exact this))⟩
      have HN5 := Held.mk (HN2.out.keep (Keep.of_below hb (fun _ => False)) (fun h => h))
      have HL5 := Held.mk (HL2.out.below hb)
      have HX5 := Held.mk hnx
      clear hb hnx HB2 HN2 HL2 k0 k1 k2 k3 k4 k5 k6 k7
      by_cases hm' : 1 ≤ m' ∧ m' ≤ 3652059
      · have Hm' := Held.mk hm'
        have hz' : (m' == 0) = false := beq_eq_false_iff_ne.2 (by omega)
        rw [if_pos hm']
        clear hm'
        go_wp2
        go_ret2
        exact ⟨some m', rfl, ⟨m, HX2.out, by rw [if_neg (by decide), if_neg (fun h => Hm.out h.1)]; exact ⟨m', HX5.out, by rw [if_pos (show isD m' from Hm'.out)]⟩⟩, by rw [Hg.out]; exact HB5.out⟩
      · have Hm' := Held.mk hm'
        rw [if_neg hm']
        clear hm'
        go_wp2
        go_ret2
        exact ⟨none, rfl, ⟨m, HX2.out, by rw [if_neg (by decide), if_neg (fun h => Hm.out h.1)]; exact ⟨m', HX5.out, by rw [if_neg (show ¬ isD m' from Hm'.out)]⟩⟩, by rw [Hg.out]; exact HB5.out⟩
  · go_enter Tryd.func57, Tryd.ntmps57
    go_wp2_with fail
    generalize w.alloc (.cells #[.bool b0, .bool b1, .bool b2, .bool b3, .bool b4, .bool b5, .bool b6, .slice A n c] 55) = w1 at *
    refine (rIs_any d w1).mono ?_
    rintro e wq ⟨rfl, rfl⟩
    rw [decide_eq_true (And.intro hd1 hd2)]
    generalize hg : w.heap.size = g at *
    have Hg := Held.mk hg
    clear hg
    have k0 := HN.out.cell 0
    have k1 := HN.out.cell 1
    have k2 := HN.out.cell 2
    have k3 := HN.out.cell 3
    have k4 := HN.out.cell 4
    have k5 := HN.out.cell 5
    have k6 := HN.out.cell 6
    have k7 := HN.out.cell 7
    simp at k0 k1 k2 k3 k4 k5 k6 k7
    go_wp2_with fail
    refine (rNear_any b0 b1 b2 b3 b4 b5 b6 A n c xs d (-1) _ HL.out hn (.inr rfl) (by omega) (by omega)).mono ?_
    rintro e w2 ⟨m, rfl, hnx, hm0, hm1, hb⟩
    have HB2 : Held (Below g w w2) := ⟨HB.out.trans (hb.mono (by have := HB.out.size; rw [Hg.out] at this; exact this))⟩
    have HN2 := Held.mk (HN.out.keep (Keep.of_below hb (fun _ => False)) (fun h => h))
    have HL2 := Held.mk (HL.out.below hb)
    have HX2 := Held.mk hnx
    clear hb hnx HB HN HL k0 k1 k2 k3 k4 k5 k6 k7
    by_cases hm : 1 ≤ m ∧ m ≤ 3652059
    · have Hm := Held.mk hm
      have hz : (m == 0) = false := beq_eq_false_iff_ne.2 (by omega)
      rw [if_pos hm]
      clear hm
      go_wp2
      go_ret2
      exact ⟨some m, rfl, ⟨m, HX2.out, by rw [if_pos (by decide), if_pos (show isD m from Hm.out)]⟩, by rw [Hg.out]; exact HB2.out⟩
    · have Hm := Held.mk hm
      rw [if_neg hm]
      clear hm
      go_wp2
      go_ret2
      exact ⟨none, rfl, ⟨m, HX2.out, by rw [if_pos (by decide), if_neg (show ¬ isD m from Hm.out)]⟩, by rw [Hg.out]; exact HB2.out⟩
  · go_enter Tryd.func57, Tryd.ntmps57
    go_wp2_with fail
    generalize w.alloc (.cells #[.bool b0, .bool b1, .bool b2, .bool b3, .bool b4, .bool b5, .bool b6, .slice A n c] 55) = w1 at *
    refine (rIs_any d w1).mono ?_
    rintro e wq ⟨rfl, rfl⟩
    rw [decide_eq_true (And.intro hd1 hd2)]
    generalize hg : w.heap.size = g at *
    have Hg := Held.mk hg
    clear hg
    have k0 := HN.out.cell 0
    have k1 := HN.out.cell 1
    have k2 := HN.out.cell 2
    have k3 := HN.out.cell 3
    have k4 := HN.out.cell 4
    have k5 := HN.out.cell 5
    have k6 := HN.out.cell 6
    have k7 := HN.out.cell 7
    simp at k0 k1 k2 k3 k4 k5 k6 k7
    go_wp2_with fail
    refine (rNear_any b0 b1 b2 b3 b4 b5 b6 A n c xs d (-1) _ HL.out hn (.inr rfl) (by omega) (by omega)).mono ?_
    rintro e w2 ⟨m, rfl, hnx, hm0, hm1, hb⟩
    have HB2 : Held (Below g w w2) := ⟨HB.out.trans (hb.mono (by have := HB.out.size; rw [Hg.out] at this; exact this))⟩
    have HN2 := Held.mk (HN.out.keep (Keep.of_below hb (fun _ => False)) (fun h => h))
    have HL2 := Held.mk (HL.out.below hb)
    have HX2 := Held.mk hnx
    clear hb hnx HB HN HL k0 k1 k2 k3 k4 k5 k6 k7
    by_cases hm : 1 ≤ m ∧ m ≤ 3652059
    · have Hm := Held.mk hm
      have hz : (m == 0) = false := beq_eq_false_iff_ne.2 (by omega)
      rw [if_pos hm]
      clear hm
      go_wp2_with fail
      refine (rmonth_in d m w2 Hd.out (show isD m from Hm.out)).mono ?_
      rintro e w3 ⟨q, hq, rfl, hb⟩
      have HB3 : Held (Below g w w3) := ⟨HB2.out.trans (hb.mono (by have := HB2.out.size; rw [Hg.out] at this; exact this))⟩
      have HN3 := Held.mk (HN2.out.keep (Keep.of_below hb (fun _ => False)) (fun h => h))
      have HL3 := Held.mk (HL2.out.below hb)
      have Hq := Held.mk hq
      clear hb hq HB2 HN2 HL2
      cases q
      · have k0 := HN3.out.cell 0
        have k1 := HN3.out.cell 1
        have k2 := HN3.out.cell 2
        have k3 := HN3.out.cell 3
        have k4 := HN3.out.cell 4
        have k5 := HN3.out.cell 5
        have k6 := HN3.out.cell 6
        have k7 := HN3.out.cell 7
        simp at k0 k1 k2 k3 k4 k5 k6 k7
        go_wp2_with fail
        refine (rNear_any b0 b1 b2 b3 b4 b5 b6 A n c xs d 1 _ HL3.out hn (.inl rfl) (by omega) (by omega)).mono ?_
        rintro e w5 ⟨m', rfl, hnx, hm0, hm1, hb⟩
        have HB5 : Held (Below g w w5) := ⟨HB3.out.trans (hb.mono (by have := HB3.out.size; rw [Hg.out] at this; exact this))⟩
        have HN5 := Held.mk (HN3.out.keep (Keep.of_below hb (fun _ => False)) (fun h => h))
        have HL5 := Held.mk (HL3.out.below hb)
        have HX5 := Held.mk hnx
        clear hb hnx HB3 HN3 HL3 k0 k1 k2 k3 k4 k5 k6 k7
        by_cases hm' : 1 ≤ m' ∧ m' ≤ 3652059
        · have Hm' := Held.mk hm'
          have hz' : (m' == 0) = false := beq_eq_false_iff_ne.2 (by omega)
          rw [if_pos hm']
          clear hm'
          go_wp2
          go_ret2
          exact ⟨some m', rfl, ⟨m, HX2.out, by rw [if_neg (by decide), if_neg (fun h => by have := Hq.out.2 h.2; cases this)]; exact ⟨m', HX5.out, by rw [if_pos (show isD m' from Hm'.out)]⟩⟩, by rw [Hg.out]; exact HB5.out⟩
        · have Hm' := Held.mk hm'
          rw [if_neg hm']
          clear hm'
          go_wp2
          go_ret2
          exact ⟨none, rfl, ⟨m, HX2.out, by rw [if_neg (by decide), if_neg (fun h => by have := Hq.out.2 h.2; cases this)]; exact ⟨m', HX5.out, by rw [if_neg (show ¬ isD m' from Hm'.out)]⟩⟩, by rw [Hg.out]; exact HB5.out⟩
      · go_wp2
        go_ret2
        exact ⟨some m, rfl, ⟨m, HX2.out, by rw [if_neg (by decide), if_pos ⟨Hm.out, Hq.out.1 (by simp)⟩]⟩, by rw [Hg.out]; exact HB3.out⟩
    · have Hm := Held.mk hm
      rw [if_neg hm]
      clear hm
      have k0 := HN2.out.cell 0
      have k1 := HN2.out.cell 1
      have k2 := HN2.out.cell 2
      have k3 := HN2.out.cell 3
      have k4 := HN2.out.cell 4
      have k5 := HN2.out.cell 5
      have k6 := HN2.out.cell 6
      have k7 := HN2.out.cell 7
      simp at k0 k1 k2 k3 k4 k5 k6 k7
      go_wp2_with fail
      refine (rNear_any b0 b1 b2 b3 b4 b5 b6 A n c xs d 1 _ HL2.out hn (.inl rfl) (by omega) (by omega)).mono ?_
      rintro e w5 ⟨m', rfl, hnx, hm0, hm1, hb⟩
      have HB5 : Held (Below g w w5) := ⟨HB2.out.trans (hb.mono (by have := HB2.out.size; rw [Hg.out] at this; exact this))⟩
      have HN5 := Held.mk (HN2.out.keep (Keep.of_below hb (fun _ => False)) (fun h => h))
      have HL5 := Held.mk (HL2.out.below hb)
      have HX5 := Held.mk hnx
      clear hb hnx HB2 HN2 HL2 k0 k1 k2 k3 k4 k5 k6 k7
      by_cases hm' : 1 ≤ m' ∧ m' ≤ 3652059
      · have Hm' := Held.mk hm'
        have hz' : (m' == 0) = false := beq_eq_false_iff_ne.2 (by omega)
        rw [if_pos hm']
        clear hm'
        go_wp2
        go_ret2
        exact ⟨some m', rfl, ⟨m, HX2.out, by rw [if_neg (by decide), if_neg (fun h => Hm.out h.1)]; exact ⟨m', HX5.out, by rw [if_pos (show isD m' from Hm'.out)]⟩⟩, by rw [Hg.out]; exact HB5.out⟩
      · have Hm' := Held.mk hm'
        rw [if_neg hm']
        clear hm'
        go_wp2
        go_ret2
        exact ⟨none, rfl, ⟨m, HX2.out, by rw [if_neg (by decide), if_neg (fun h => Hm.out h.1)]; exact ⟨m', HX5.out, by rw [if_neg (show ¬ isD m' from Hm'.out)]⟩⟩, by rw [Hg.out]; exact HB5.out⟩
end Cal
end Go.Proofs.YtlnkdgjlbpldpaaDoor
