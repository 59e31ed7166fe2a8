/- CalendarStands: the walk. -/
import Derived.Test.YtlnkdgjlbpldpaaStd
namespace Go.Proofs.Ytlnkdgjlbpldpaa
set_option linter.unusedVariables false
set_option linter.unusedSimpArgs false
namespace Cal
open Go.RowKit Mem Go.Proofs.YtlnkdgjlbpldpaaW.PrintLast Go.Maps

theorem right_months {t d : Int} (h1 : 12 ≤ t) (h2 : t < 120000) (hd : 1 ≤ d) : Right (t / 12) (t % 12 + 1) (minI d (lengthI (t / 12) (t % 12 + 1))) := by
  have hl := len_lo (t / 12) (t % 12 + 1) (by omega) (by omega)
  refine ⟨by omega, by omega, by omega, by omega, ?_, ?_⟩ <;> unfold minI <;> split <;> omega
theorem min_le (a b : Int) : minI a b ≤ a := by unfold minI; split <;> omega
theorem min_28 {d l : Int} (h : d ≤ 28) (hl : 28 ≤ l) : minI d l = d := by unfold minI; rw [if_pos (by omega)]
theorem min_le' {d l : Int} (h : d ≤ l) : minI d l = d := by unfold minI; rw [if_pos h]
/-- Back by as many months. -/
theorem months_back {y m d t : Int} (hR : Right y m d) (ht : t = 12 * y + m - 1) (hd : d ≤ 28) : monthsI t d = numI y m d := by
  have h1 := hR.m1
  have h2 := hR.m2
  have e1 : t / 12 = y := by omega
  have e2 : t % 12 + 1 = m := by omega
  unfold monthsI
  rw [e1, e2, min_le' hR.d2]

set_option maxHeartbeats 16000000 in
set_option maxRecDepth 1000000 in
theorem stands_any (b0 b1 b2 b3 b4 b5 b6 : Bool) (A : Option Addr) (n0 c0 : Nat) (xs : List Int) (n1 k : Int) (w : World) (hr : RdN w (fun k => k < w.heap.size) .i64 A n0 xs) (hwf : ∀ x ∈ xs, (Lit.int .i64 x).wf = true) (hn0 : n0 ≤ 17592186043904)
    (hn1 : I64 n1) (hk : I64 k) :
    Calls Try.prog 6 #[.agg #[.bool b0, .bool b1, .bool b2, .bool b3, .bool b4, .bool b5, .bool b6, .slice A n0 c0], .int .i64 n1, .int .i64 k] w fun e w' => e = .returned (.bool true) ∧ Below w.heap.size w w' := by
  have Hr := Held.mk hr
  have Hwf := Held.mk hwf
  have Hn1 := Held.mk hn1
  have Hk := Held.mk hk
  clear hr hwf hn1 hk
  have HB0 : Held (Below w.heap.size w (w.alloc (.cells #[.bool b0, .bool b1, .bool b2, .bool b3, .bool b4, .bool b5, .bool b6, .slice A n0 c0] 41))) := ⟨(Below.refl _ _).alloc (Nat.le_refl _) _⟩
  have Hr0 : Held (RdN (w.alloc (.cells #[.bool b0, .bool b1, .bool b2, .bool b3, .bool b4, .bool b5, .bool b6, .slice A n0 c0] 41)) (fun k => k < (w.alloc (.cells #[.bool b0, .bool b1, .bool b2, .bool b3, .bool b4, .bool b5, .bool b6, .slice A n0 c0] 41)).heap.size) .i64 A n0 xs) := ⟨(RdV.mono (Hr.out.keep (Keep.of_below HB0.out (fun _ => False)) (fun _ _ h => h)) (fun k hk => by simp; omega))⟩
  generalize hW0 : w.heap.size = W0 at *
  have HW0 := Held.mk hW0
  clear hW0
  go_enter Try.func6, Try.ntmps6
  go_wp2_with fail
  generalize w.alloc (.cells #[.bool b0, .bool b1, .bool b2, .bool b3, .bool b4, .bool b5, .bool b6, .slice A n0 c0] 41) = wA at *
  refine (new_any b0 b1 b2 b3 b4 b5 b6 A n0 c0 xs wA Hr0.out Hwf.out hn0).mono ?_
  rintro e w1 ⟨g, bb, rfl, hg, hbb, hC, hb⟩
  have HB1 : Held (Below W0 w w1) := ⟨HB0.out.trans (hb.mono (by have := HB0.out.size; rw [HW0.out] at this; exact this))⟩
  have HC1 := Held.mk hC
  clear hb hC hg hbb HB0 Hr0 Hr Hwf
  generalize [b0, b1, b2, b3, b4, b5, b6] = wk at *
  go_wp2_with fail
  refine (shown_any _).mono ?_
  rintro e w2 ⟨rfl, hb⟩
  have HB2 : Held (Below W0 w w2) := ⟨HB1.out.trans (hb.mono (by have := HB1.out.size; rw [HW0.out] at this; exact this))⟩
  have HC2 := Held.mk (HC1.out.below hb)
  clear hb HB1 HC1
  go_wp2_with fail
  refine (first_any n1 3652059 w2 Hn1.out (by decide) (by decide)).mono ?_
  rintro e w3 ⟨rfl, rfl⟩
  obtain ⟨n, hn⟩ : ∃ n, 1 + n1 % 3652059 = n := ⟨_, rfl⟩
  have hnd : isD n := by unfold isD; omega
  rw [hn]
  clear hn Hn1
  have Hnd := Held.mk hnd
  obtain ⟨hnd1, hnd2⟩ := hnd
  go_wp2
  go_loopw [8] (fun u wr => ∃ c : Int, u = .int .i64 c ∧ (c = 0 ∨ c = 1 ∨ c = 2 ∨ c = 3 ∨ c = 4) ∧ Held (CalW wr g bb wk xs) ∧ Held (Below W0 w wr)) (fun u _ => (4 - intOf u).toNat)
  case atStart => exact ⟨0, rfl, by omega, HC2, HB2⟩
  case round =>
    obtain ⟨c, rfl, hc, HC, HB⟩ := hrel
    clear HC2 HB2
    rcases hc with rfl | rfl | rfl | rfl | rfl
    · go_wp2_with fail
      refine (adjust_any g bb wk xs n 0 wr HC.out Hnd.out (by decide)).mono ?_
      intro e x1 hadj
      obtain ⟨r, rfl, hap, hb⟩ := adj_fit Hnd.out (fun i => busB_day) (by decide) hadj
      have HB1 : Held (Below W0 w x1) := ⟨HB.out.trans (hb.mono (by have := HB.out.size; rw [HW0.out] at this; exact this))⟩
      have HC1 := Held.mk (HC.out.below hb)
      have HA := Held.mk hap
      clear hb hap hadj HB HC
      cases r with
      | none =>
        simp only [addV, noDayV]
        go_wp2_with fail
        refine (business_any g bb wk xs n x1 HC1.out).mono ?_
        rintro e x2 ⟨rfl, hb⟩
        have HB2 : Held (Below W0 w x2) := ⟨HB1.out.trans (hb.mono (by have := HB1.out.size; rw [HW0.out] at this; exact this))⟩
        have HC2 := Held.mk (HC1.out.below hb)
        clear hb HB1 HC1
        have hbn : busB wk xs n = false := by
          cases hq : busB wk xs n
          · rfl
          · have := HA.out.here hq
            cases this
        rw [hbn]
        go_wp2
        go_roundw
        case rel => exact ⟨1, by first | rfl | go_num, by omega, HC2, HB2⟩
        case measure => simp [intOf]
      | some x =>
        simp only [addV]
        obtain ⟨hxd, hbx⟩ := HA.out.day x rfl
        have Hxd := Held.mk hxd
        obtain ⟨hxd1, hxd2⟩ := hxd
        have hdir := HA.out.up x rfl rfl
        have hcmp : decide (x < n) = false := decide_eq_false (by omega)
        have Hno : Held (∀ i, n ≤ i ∧ i < x ∨ x < i ∧ i ≤ n → busB wk xs i = false) := ⟨fun i h => HA.out.upNo x rfl rfl i (by omega) (by omega)⟩
        go_wp2_with fail
        refine (business_any g bb wk xs n x1 HC1.out).mono ?_
        rintro e x2 ⟨rfl, hb⟩
        have HB2 : Held (Below W0 w x2) := ⟨HB1.out.trans (hb.mono (by have := HB1.out.size; rw [HW0.out] at this; exact this))⟩
        have HC2 := Held.mk (HC1.out.below hb)
        clear hb HB1 HC1
        have hst : ∃ st : Bool, busB wk xs n = st ∧ (st = true → x = n) := ⟨_, rfl, fun h => by have := HA.out.here h; injection this⟩
        obtain ⟨st, hst, hxn⟩ := hst
        rw [hst]
        clear hst
        have hb9 : (st && (x != n)) = false := by
          cases st
          · rfl
          · simp [hxn rfl]
        have hcase : st = false ∨ st = true ∧ (x != n) = false := by
          cases st
          · exact .inl rfl
          · exact .inr ⟨rfl, by simp [hxn rfl]⟩
        clear hxn hb9
        have Hbx := Held.mk hbx
        clear hbx
        rcases hcase with rfl | ⟨rfl, hxn⟩
        · go_wp2_with fail
          refine (business_any g bb wk xs x x2 HC2.out).mono ?_
          rintro e x3 ⟨rfl, hb⟩
          have HB3 : Held (Below W0 w x3) := ⟨HB2.out.trans (hb.mono (by have := HB2.out.size; rw [HW0.out] at this; exact this))⟩
          have HC3 := Held.mk (HC2.out.below hb)
          clear hb HB2 HC2
          rw [Hbx.out]
          go_wp2
          go_loopw [11] (fun u wq => ∃ i : Int, u = .int .i64 i ∧ (n ≤ i ∧ i ≤ x ∨ x ≤ i ∧ i ≤ n) ∧ Held (CalW wq g bb wk xs) ∧ Held (Below W0 w wq)) (fun u _ => (if n ≤ x then intOf u - n else n - intOf u).toNat)
          case atStart => exact ⟨x, rfl, by omega, HC3, HB3⟩
          case round =>
            obtain ⟨i, rfl, hi, HCq, HBq⟩ := hrel
            clear HC3 HB3
            by_cases he : i = n
            · subst he
              go_wp2
              go_roundw
              case rel => exact ⟨1, by first | rfl | go_num, by omega, HCq, HBq⟩
              case measure => simp [intOf]
            · have hne : (i != n) = true := by simp [he]
              by_cases hl : i < n
              · go_wp2_with fail
                refine (business_any g bb wk xs (i + 1) wr HCq.out).mono ?_
                rintro e x9 ⟨rfl, hb⟩
                have HB9 : Held (Below W0 w x9) := ⟨HBq.out.trans (hb.mono (by have := HBq.out.size; rw [HW0.out] at this; exact this))⟩
                have HC9 := Held.mk (HCq.out.below hb)
                clear hb HBq HCq
                rw [Hno.out (i + 1) (by omega)]
                go_wp2
                go_roundw
                case rel => exact ⟨(i + 1), by first | rfl | go_num, by omega, HC9, HB9⟩
                case measure =>
                  by_cases hnx : n ≤ x
                  · simp [intOf, hnx]; omega
                  · simp [intOf, hnx]; omega
              · go_wp2_with fail
                refine (business_any g bb wk xs (i - 1) wr HCq.out).mono ?_
                rintro e x9 ⟨rfl, hb⟩
                have HB9 : Held (Below W0 w x9) := ⟨HBq.out.trans (hb.mono (by have := HBq.out.size; rw [HW0.out] at this; exact this))⟩
                have HC9 := Held.mk (HCq.out.below hb)
                clear hb HBq HCq
                rw [Hno.out (i - 1) (by omega)]
                go_wp2
                go_roundw
                case rel => exact ⟨(i - 1), by first | rfl | go_num, by omega, HC9, HB9⟩
                case measure =>
                  by_cases hnx : n ≤ x
                  · simp [intOf, hnx]; omega
                  · simp [intOf, hnx]; omega
        · go_wp2_with fail
          refine (business_any g bb wk xs x x2 HC2.out).mono ?_
          rintro e x3 ⟨rfl, hb⟩
          have HB3 : Held (Below W0 w x3) := ⟨HB2.out.trans (hb.mono (by have := HB2.out.size; rw [HW0.out] at this; exact this))⟩
          have HC3 := Held.mk (HC2.out.below hb)
          clear hb HB2 HC2
          rw [Hbx.out]
          go_wp2
          go_loopw [11] (fun u wq => ∃ i : Int, u = .int .i64 i ∧ (n ≤ i ∧ i ≤ x ∨ x ≤ i ∧ i ≤ n) ∧ Held (CalW wq g bb wk xs) ∧ Held (Below W0 w wq)) (fun u _ => (if n ≤ x then intOf u - n else n - intOf u).toNat)
          case atStart => exact ⟨x, rfl, by omega, HC3, HB3⟩
          case round =>
            obtain ⟨i, rfl, hi, HCq, HBq⟩ := hrel
            clear HC3 HB3
            by_cases he : i = n
            · subst he
              go_wp2
              go_roundw
              case rel => exact ⟨1, by first | rfl | go_num, by omega, HCq, HBq⟩
              case measure => simp [intOf]
            · have hne : (i != n) = true := by simp [he]
              by_cases hl : i < n
              · go_wp2_with fail
                refine (business_any g bb wk xs (i + 1) wr HCq.out).mono ?_
                rintro e x9 ⟨rfl, hb⟩
                have HB9 : Held (Below W0 w x9) := ⟨HBq.out.trans (hb.mono (by have := HBq.out.size; rw [HW0.out] at this; exact this))⟩
                have HC9 := Held.mk (HCq.out.below hb)
                clear hb HBq HCq
                rw [Hno.out (i + 1) (by omega)]
                go_wp2
                go_roundw
                case rel => exact ⟨(i + 1), by first | rfl | go_num, by omega, HC9, HB9⟩
                case measure =>
                  by_cases hnx : n ≤ x
                  · simp [intOf, hnx]; omega
                  · simp [intOf, hnx]; omega
              · go_wp2_with fail
                refine (business_any g bb wk xs (i - 1) wr HCq.out).mono ?_
                rintro e x9 ⟨rfl, hb⟩
                have HB9 : Held (Below W0 w x9) := ⟨HBq.out.trans (hb.mono (by have := HBq.out.size; rw [HW0.out] at this; exact this))⟩
                have HC9 := Held.mk (HCq.out.below hb)
                clear hb HBq HCq
                rw [Hno.out (i - 1) (by omega)]
                go_wp2
                go_roundw
                case rel => exact ⟨(i - 1), by first | rfl | go_num, by omega, HC9, HB9⟩
                case measure =>
                  by_cases hnx : n ≤ x
                  · simp [intOf, hnx]; omega
                  · simp [intOf, hnx]; omega
    · go_wp2_with fail
      refine (adjust_any g bb wk xs n 1 wr HC.out Hnd.out (by decide)).mono ?_
      intro e x1 hadj
      obtain ⟨r, rfl, hap, hb⟩ := adj_fit Hnd.out (fun i => busB_day) (by decide) hadj
      have HB1 : Held (Below W0 w x1) := ⟨HB.out.trans (hb.mono (by have := HB.out.size; rw [HW0.out] at this; exact this))⟩
      have HC1 := Held.mk (HC.out.below hb)
      have HA := Held.mk hap
      clear hb hap hadj HB HC
      cases r with
      | none =>
        simp only [addV, noDayV]
        go_wp2_with fail
        refine (business_any g bb wk xs n x1 HC1.out).mono ?_
        rintro e x2 ⟨rfl, hb⟩
        have HB2 : Held (Below W0 w x2) := ⟨HB1.out.trans (hb.mono (by have := HB1.out.size; rw [HW0.out] at this; exact this))⟩
        have HC2 := Held.mk (HC1.out.below hb)
        clear hb HB1 HC1
        have hbn : busB wk xs n = false := by
          cases hq : busB wk xs n
          · rfl
          · have := HA.out.here hq
            cases this
        rw [hbn]
        go_wp2
        go_roundw
        case rel => exact ⟨2, by first | rfl | go_num, by omega, HC2, HB2⟩
        case measure => simp [intOf]
      | some x =>
        simp only [addV]
        obtain ⟨hxd, hbx⟩ := HA.out.day x rfl
        have Hxd := Held.mk hxd
        obtain ⟨hxd1, hxd2⟩ := hxd
        go_wp2_with fail
        refine (business_any g bb wk xs n x1 HC1.out).mono ?_
        rintro e x2 ⟨rfl, hb⟩
        have HB2 : Held (Below W0 w x2) := ⟨HB1.out.trans (hb.mono (by have := HB1.out.size; rw [HW0.out] at this; exact this))⟩
        have HC2 := Held.mk (HC1.out.below hb)
        clear hb HB1 HC1
        have hst : ∃ st : Bool, busB wk xs n = st ∧ (st = true → x = n) := ⟨_, rfl, fun h => by have := HA.out.here h; injection this⟩
        obtain ⟨st, hst, hxn⟩ := hst
        rw [hst]
        clear hst
        have hb9 : (st && (x != n)) = false := by
          cases st
          · rfl
          · simp [hxn rfl]
        have hcase : st = false ∨ st = true ∧ (x != n) = false := by
          cases st
          · exact .inl rfl
          · exact .inr ⟨rfl, by simp [hxn rfl]⟩
        clear hxn hb9
        have Hbx := Held.mk hbx
        clear hbx
        rcases hcase with rfl | ⟨rfl, hxn⟩
        · go_wp2_with fail
          refine (business_any g bb wk xs x x2 HC2.out).mono ?_
          rintro e x3 ⟨rfl, hb⟩
          have HB3 : Held (Below W0 w x3) := ⟨HB2.out.trans (hb.mono (by have := HB2.out.size; rw [HW0.out] at this; exact this))⟩
          have HC3 := Held.mk (HC2.out.below hb)
          clear hb HB2 HC2
          rw [Hbx.out]
          go_wp2_with fail
          refine (hasB_any g bb wk xs n x3 HC3.out Hnd.out).mono ?_
          rintro e x4 ⟨q, hq, rfl, hb⟩
          have HB4 : Held (Below W0 w x4) := ⟨HB3.out.trans (hb.mono (by have := HB3.out.size; rw [HW0.out] at this; exact this))⟩
          have HC4 := Held.mk (HC3.out.below hb)
          have Hq := Held.mk hq
          clear hb hq HB3 HC3
          have HL : Held (∀ (i : Int) (wq : World), Held (CalW wq g bb wk xs) → Held (Below W0 w wq) → True) := ⟨fun _ _ _ _ => trivial⟩
          cases q
          · go_wp2
            go_loopw [11] (fun u wq => ∃ i : Int, u = .int .i64 i ∧ (n ≤ i ∧ i ≤ x ∨ x ≤ i ∧ i ≤ n) ∧ Held (CalW wq g bb wk xs) ∧ Held (Below W0 w wq)) (fun u _ => (if n ≤ x then intOf u - n else n - intOf u).toNat)
            case atStart => exact ⟨x, rfl, by omega, HC4, HB4⟩
            case round =>
              obtain ⟨i, rfl, hi, HCq, HBq⟩ := hrel
              clear HC4 HB4
              by_cases he : i = n
              · subst he
                go_wp2
                go_roundw
                case rel => exact ⟨2, by first | rfl | go_num, by omega, HCq, HBq⟩
                case measure => simp [intOf]
              · have hne : (i != n) = true := by simp [he]
                by_cases hl : i < n
                · go_wp2
                  go_roundw
                  case rel => exact ⟨(i + 1), by first | rfl | go_num, by omega, HCq, HBq⟩
                  case measure =>
                    by_cases hnx : n ≤ x
                    · simp [intOf, hnx]; omega
                    · simp [intOf, hnx]; omega
                · go_wp2
                  go_roundw
                  case rel => exact ⟨(i - 1), by first | rfl | go_num, by omega, HCq, HBq⟩
                  case measure =>
                    by_cases hnx : n ≤ x
                    · simp [intOf, hnx]; omega
                    · simp [intOf, hnx]; omega
          · go_wp2_with fail
            refine (month_in x n x4 Hxd.out Hnd.out).mono ?_
            rintro e x5 ⟨q, hq, rfl, hb⟩
            obtain rfl : q = true := hq.2 (HA.out.month x rfl (by decide) (Hq.out (by simp)))
            have HB5 : Held (Below W0 w x5) := ⟨HB4.out.trans (hb.mono (by have := HB4.out.size; rw [HW0.out] at this; exact this))⟩
            have HC5 := Held.mk (HC4.out.below hb)
            clear hb hq HB4 HC4
            go_wp2
            go_loopw [11] (fun u wq => ∃ i : Int, u = .int .i64 i ∧ (n ≤ i ∧ i ≤ x ∨ x ≤ i ∧ i ≤ n) ∧ Held (CalW wq g bb wk xs) ∧ Held (Below W0 w wq)) (fun u _ => (if n ≤ x then intOf u - n else n - intOf u).toNat)
            case atStart => exact ⟨x, rfl, by omega, HC5, HB5⟩
            case round =>
              obtain ⟨i, rfl, hi, HCq, HBq⟩ := hrel
              clear HC5 HB5
              by_cases he : i = n
              · subst he
                go_wp2
                go_roundw
                case rel => exact ⟨2, by first | rfl | go_num, by omega, HCq, HBq⟩
                case measure => simp [intOf]
              · have hne : (i != n) = true := by simp [he]
                by_cases hl : i < n
                · go_wp2
                  go_roundw
                  case rel => exact ⟨(i + 1), by first | rfl | go_num, by omega, HCq, HBq⟩
                  case measure =>
                    by_cases hnx : n ≤ x
                    · simp [intOf, hnx]; omega
                    · simp [intOf, hnx]; omega
                · go_wp2
                  go_roundw
                  case rel => exact ⟨(i - 1), by first | rfl | go_num, by omega, HCq, HBq⟩
                  case measure =>
                    by_cases hnx : n ≤ x
                    · simp [intOf, hnx]; omega
                    · simp [intOf, hnx]; omega
        · go_wp2_with fail
          refine (business_any g bb wk xs x x2 HC2.out).mono ?_
          rintro e x3 ⟨rfl, hb⟩
          have HB3 : Held (Below W0 w x3) := ⟨HB2.out.trans (hb.mono (by have := HB2.out.size; rw [HW0.out] at this; exact this))⟩
          have HC3 := Held.mk (HC2.out.below hb)
          clear hb HB2 HC2
          rw [Hbx.out]
          go_wp2_with fail
          refine (hasB_any g bb wk xs n x3 HC3.out Hnd.out).mono ?_
          rintro e x4 ⟨q, hq, rfl, hb⟩
          have HB4 : Held (Below W0 w x4) := ⟨HB3.out.trans (hb.mono (by have := HB3.out.size; rw [HW0.out] at this; exact this))⟩
          have HC4 := Held.mk (HC3.out.below hb)
          have Hq := Held.mk hq
          clear hb hq HB3 HC3
          have HL : Held (∀ (i : Int) (wq : World), Held (CalW wq g bb wk xs) → Held (Below W0 w wq) → True) := ⟨fun _ _ _ _ => trivial⟩
          cases q
          · go_wp2
            go_loopw [11] (fun u wq => ∃ i : Int, u = .int .i64 i ∧ (n ≤ i ∧ i ≤ x ∨ x ≤ i ∧ i ≤ n) ∧ Held (CalW wq g bb wk xs) ∧ Held (Below W0 w wq)) (fun u _ => (if n ≤ x then intOf u - n else n - intOf u).toNat)
            case atStart => exact ⟨x, rfl, by omega, HC4, HB4⟩
            case round =>
              obtain ⟨i, rfl, hi, HCq, HBq⟩ := hrel
              clear HC4 HB4
              by_cases he : i = n
              · subst he
                go_wp2
                go_roundw
                case rel => exact ⟨2, by first | rfl | go_num, by omega, HCq, HBq⟩
                case measure => simp [intOf]
              · have hne : (i != n) = true := by simp [he]
                by_cases hl : i < n
                · go_wp2
                  go_roundw
                  case rel => exact ⟨(i + 1), by first | rfl | go_num, by omega, HCq, HBq⟩
                  case measure =>
                    by_cases hnx : n ≤ x
                    · simp [intOf, hnx]; omega
                    · simp [intOf, hnx]; omega
                · go_wp2
                  go_roundw
                  case rel => exact ⟨(i - 1), by first | rfl | go_num, by omega, HCq, HBq⟩
                  case measure =>
                    by_cases hnx : n ≤ x
                    · simp [intOf, hnx]; omega
                    · simp [intOf, hnx]; omega
          · go_wp2_with fail
            refine (month_in x n x4 Hxd.out Hnd.out).mono ?_
            rintro e x5 ⟨q, hq, rfl, hb⟩
            obtain rfl : q = true := hq.2 (HA.out.month x rfl (by decide) (Hq.out (by simp)))
            have HB5 : Held (Below W0 w x5) := ⟨HB4.out.trans (hb.mono (by have := HB4.out.size; rw [HW0.out] at this; exact this))⟩
            have HC5 := Held.mk (HC4.out.below hb)
            clear hb hq HB4 HC4
            go_wp2
            go_loopw [11] (fun u wq => ∃ i : Int, u = .int .i64 i ∧ (n ≤ i ∧ i ≤ x ∨ x ≤ i ∧ i ≤ n) ∧ Held (CalW wq g bb wk xs) ∧ Held (Below W0 w wq)) (fun u _ => (if n ≤ x then intOf u - n else n - intOf u).toNat)
            case atStart => exact ⟨x, rfl, by omega, HC5, HB5⟩
            case round =>
              obtain ⟨i, rfl, hi, HCq, HBq⟩ := hrel
              clear HC5 HB5
              by_cases he : i = n
              · subst he
                go_wp2
                go_roundw
                case rel => exact ⟨2, by first | rfl | go_num, by omega, HCq, HBq⟩
                case measure => simp [intOf]
              · have hne : (i != n) = true := by simp [he]
                by_cases hl : i < n
                · go_wp2
                  go_roundw
                  case rel => exact ⟨(i + 1), by first | rfl | go_num, by omega, HCq, HBq⟩
                  case measure =>
                    by_cases hnx : n ≤ x
                    · simp [intOf, hnx]; omega
                    · simp [intOf, hnx]; omega
                · go_wp2
                  go_roundw
                  case rel => exact ⟨(i - 1), by first | rfl | go_num, by omega, HCq, HBq⟩
                  case measure =>
                    by_cases hnx : n ≤ x
                    · simp [intOf, hnx]; omega
                    · simp [intOf, hnx]; omega
    · go_wp2_with fail
      refine (adjust_any g bb wk xs n 2 wr HC.out Hnd.out (by decide)).mono ?_
      intro e x1 hadj
      obtain ⟨r, rfl, hap, hb⟩ := adj_fit Hnd.out (fun i => busB_day) (by decide) hadj
      have HB1 : Held (Below W0 w x1) := ⟨HB.out.trans (hb.mono (by have := HB.out.size; rw [HW0.out] at this; exact this))⟩
      have HC1 := Held.mk (HC.out.below hb)
      have HA := Held.mk hap
      clear hb hap hadj HB HC
      cases r with
      | none =>
        simp only [addV, noDayV]
        go_wp2_with fail
        refine (business_any g bb wk xs n x1 HC1.out).mono ?_
        rintro e x2 ⟨rfl, hb⟩
        have HB2 : Held (Below W0 w x2) := ⟨HB1.out.trans (hb.mono (by have := HB1.out.size; rw [HW0.out] at this; exact this))⟩
        have HC2 := Held.mk (HC1.out.below hb)
        clear hb HB1 HC1
        have hbn : busB wk xs n = false := by
          cases hq : busB wk xs n
          · rfl
          · have := HA.out.here hq
            cases this
        rw [hbn]
        go_wp2
        go_roundw
        case rel => exact ⟨3, by first | rfl | go_num, by omega, HC2, HB2⟩
        case measure => simp [intOf]
      | some x =>
        simp only [addV]
        obtain ⟨hxd, hbx⟩ := HA.out.day x rfl
        have Hxd := Held.mk hxd
        obtain ⟨hxd1, hxd2⟩ := hxd
        have hdir := HA.out.down x rfl rfl
        have hcmp : decide (n < x) = false := decide_eq_false (by omega)
        have Hno : Held (∀ i, n ≤ i ∧ i < x ∨ x < i ∧ i ≤ n → busB wk xs i = false) := ⟨fun i h => HA.out.downNo x rfl rfl i (by omega) (by omega)⟩
        go_wp2_with fail
        refine (business_any g bb wk xs n x1 HC1.out).mono ?_
        rintro e x2 ⟨rfl, hb⟩
        have HB2 : Held (Below W0 w x2) := ⟨HB1.out.trans (hb.mono (by have := HB1.out.size; rw [HW0.out] at this; exact this))⟩
        have HC2 := Held.mk (HC1.out.below hb)
        clear hb HB1 HC1
        have hst : ∃ st : Bool, busB wk xs n = st ∧ (st = true → x = n) := ⟨_, rfl, fun h => by have := HA.out.here h; injection this⟩
        obtain ⟨st, hst, hxn⟩ := hst
        rw [hst]
        clear hst
        have hb9 : (st && (x != n)) = false := by
          cases st
          · rfl
          · simp [hxn rfl]
        have hcase : st = false ∨ st = true ∧ (x != n) = false := by
          cases st
          · exact .inl rfl
          · exact .inr ⟨rfl, by simp [hxn rfl]⟩
        clear hxn hb9
        have Hbx := Held.mk hbx
        clear hbx
        rcases hcase with rfl | ⟨rfl, hxn⟩
        · go_wp2_with fail
          refine (business_any g bb wk xs x x2 HC2.out).mono ?_
          rintro e x3 ⟨rfl, hb⟩
          have HB3 : Held (Below W0 w x3) := ⟨HB2.out.trans (hb.mono (by have := HB2.out.size; rw [HW0.out] at this; exact this))⟩
          have HC3 := Held.mk (HC2.out.below hb)
          clear hb HB2 HC2
          rw [Hbx.out]
          go_wp2
          go_loopw [11] (fun u wq => ∃ i : Int, u = .int .i64 i ∧ (n ≤ i ∧ i ≤ x ∨ x ≤ i ∧ i ≤ n) ∧ Held (CalW wq g bb wk xs) ∧ Held (Below W0 w wq)) (fun u _ => (if n ≤ x then intOf u - n else n - intOf u).toNat)
          case atStart => exact ⟨x, rfl, by omega, HC3, HB3⟩
          case round =>
            obtain ⟨i, rfl, hi, HCq, HBq⟩ := hrel
            clear HC3 HB3
            by_cases he : i = n
            · subst he
              go_wp2
              go_roundw
              case rel => exact ⟨3, by first | rfl | go_num, by omega, HCq, HBq⟩
              case measure => simp [intOf]
            · have hne : (i != n) = true := by simp [he]
              by_cases hl : i < n
              · go_wp2_with fail
                refine (business_any g bb wk xs (i + 1) wr HCq.out).mono ?_
                rintro e x9 ⟨rfl, hb⟩
                have HB9 : Held (Below W0 w x9) := ⟨HBq.out.trans (hb.mono (by have := HBq.out.size; rw [HW0.out] at this; exact this))⟩
                have HC9 := Held.mk (HCq.out.below hb)
                clear hb HBq HCq
                rw [Hno.out (i + 1) (by omega)]
                go_wp2
                go_roundw
                case rel => exact ⟨(i + 1), by first | rfl | go_num, by omega, HC9, HB9⟩
                case measure =>
                  by_cases hnx : n ≤ x
                  · simp [intOf, hnx]; omega
                  · simp [intOf, hnx]; omega
              · go_wp2_with fail
                refine (business_any g bb wk xs (i - 1) wr HCq.out).mono ?_
                rintro e x9 ⟨rfl, hb⟩
                have HB9 : Held (Below W0 w x9) := ⟨HBq.out.trans (hb.mono (by have := HBq.out.size; rw [HW0.out] at this; exact this))⟩
                have HC9 := Held.mk (HCq.out.below hb)
                clear hb HBq HCq
                rw [Hno.out (i - 1) (by omega)]
                go_wp2
                go_roundw
                case rel => exact ⟨(i - 1), by first | rfl | go_num, by omega, HC9, HB9⟩
                case measure =>
                  by_cases hnx : n ≤ x
                  · simp [intOf, hnx]; omega
                  · simp [intOf, hnx]; omega
        · go_wp2_with fail
          refine (business_any g bb wk xs x x2 HC2.out).mono ?_
          rintro e x3 ⟨rfl, hb⟩
          have HB3 : Held (Below W0 w x3) := ⟨HB2.out.trans (hb.mono (by have := HB2.out.size; rw [HW0.out] at this; exact this))⟩
          have HC3 := Held.mk (HC2.out.below hb)
          clear hb HB2 HC2
          rw [Hbx.out]
          go_wp2
          go_loopw [11] (fun u wq => ∃ i : Int, u = .int .i64 i ∧ (n ≤ i ∧ i ≤ x ∨ x ≤ i ∧ i ≤ n) ∧ Held (CalW wq g bb wk xs) ∧ Held (Below W0 w wq)) (fun u _ => (if n ≤ x then intOf u - n else n - intOf u).toNat)
          case atStart => exact ⟨x, rfl, by omega, HC3, HB3⟩
          case round =>
            obtain ⟨i, rfl, hi, HCq, HBq⟩ := hrel
            clear HC3 HB3
            by_cases he : i = n
            · subst he
              go_wp2
              go_roundw
              case rel => exact ⟨3, by first | rfl | go_num, by omega, HCq, HBq⟩
              case measure => simp [intOf]
            · have hne : (i != n) = true := by simp [he]
              by_cases hl : i < n
              · go_wp2_with fail
                refine (business_any g bb wk xs (i + 1) wr HCq.out).mono ?_
                rintro e x9 ⟨rfl, hb⟩
                have HB9 : Held (Below W0 w x9) := ⟨HBq.out.trans (hb.mono (by have := HBq.out.size; rw [HW0.out] at this; exact this))⟩
                have HC9 := Held.mk (HCq.out.below hb)
                clear hb HBq HCq
                rw [Hno.out (i + 1) (by omega)]
                go_wp2
                go_roundw
                case rel => exact ⟨(i + 1), by first | rfl | go_num, by omega, HC9, HB9⟩
                case measure =>
                  by_cases hnx : n ≤ x
                  · simp [intOf, hnx]; omega
                  · simp [intOf, hnx]; omega
              · go_wp2_with fail
                refine (business_any g bb wk xs (i - 1) wr HCq.out).mono ?_
                rintro e x9 ⟨rfl, hb⟩
                have HB9 : Held (Below W0 w x9) := ⟨HBq.out.trans (hb.mono (by have := HBq.out.size; rw [HW0.out] at this; exact this))⟩
                have HC9 := Held.mk (HCq.out.below hb)
                clear hb HBq HCq
                rw [Hno.out (i - 1) (by omega)]
                go_wp2
                go_roundw
                case rel => exact ⟨(i - 1), by first | rfl | go_num, by omega, HC9, HB9⟩
                case measure =>
                  by_cases hnx : n ≤ x
                  · simp [intOf, hnx]; omega
                  · simp [intOf, hnx]; omega
    · go_wp2_with fail
      refine (adjust_any g bb wk xs n 3 wr HC.out Hnd.out (by decide)).mono ?_
      intro e x1 hadj
      obtain ⟨r, rfl, hap, hb⟩ := adj_fit Hnd.out (fun i => busB_day) (by decide) hadj
      have HB1 : Held (Below W0 w x1) := ⟨HB.out.trans (hb.mono (by have := HB.out.size; rw [HW0.out] at this; exact this))⟩
      have HC1 := Held.mk (HC.out.below hb)
      have HA := Held.mk hap
      clear hb hap hadj HB HC
      cases r with
      | none =>
        simp only [addV, noDayV]
        go_wp2_with fail
        refine (business_any g bb wk xs n x1 HC1.out).mono ?_
        rintro e x2 ⟨rfl, hb⟩
        have HB2 : Held (Below W0 w x2) := ⟨HB1.out.trans (hb.mono (by have := HB1.out.size; rw [HW0.out] at this; exact this))⟩
        have HC2 := Held.mk (HC1.out.below hb)
        clear hb HB1 HC1
        have hbn : busB wk xs n = false := by
          cases hq : busB wk xs n
          · rfl
          · have := HA.out.here hq
            cases this
        rw [hbn]
        go_wp2
        go_roundw
        case rel => exact ⟨4, by first | rfl | go_num, by omega, HC2, HB2⟩
        case measure => simp [intOf]
      | some x =>
        simp only [addV]
        obtain ⟨hxd, hbx⟩ := HA.out.day x rfl
        have Hxd := Held.mk hxd
        obtain ⟨hxd1, hxd2⟩ := hxd
        go_wp2_with fail
        refine (business_any g bb wk xs n x1 HC1.out).mono ?_
        rintro e x2 ⟨rfl, hb⟩
        have HB2 : Held (Below W0 w x2) := ⟨HB1.out.trans (hb.mono (by have := HB1.out.size; rw [HW0.out] at this; exact this))⟩
        have HC2 := Held.mk (HC1.out.below hb)
        clear hb HB1 HC1
        have hst : ∃ st : Bool, busB wk xs n = st ∧ (st = true → x = n) := ⟨_, rfl, fun h => by have := HA.out.here h; injection this⟩
        obtain ⟨st, hst, hxn⟩ := hst
        rw [hst]
        clear hst
        have hb9 : (st && (x != n)) = false := by
          cases st
          · rfl
          · simp [hxn rfl]
        have hcase : st = false ∨ st = true ∧ (x != n) = false := by
          cases st
          · exact .inl rfl
          · exact .inr ⟨rfl, by simp [hxn rfl]⟩
        clear hxn hb9
        have Hbx := Held.mk hbx
        clear hbx
        rcases hcase with rfl | ⟨rfl, hxn⟩
        · go_wp2_with fail
          refine (business_any g bb wk xs x x2 HC2.out).mono ?_
          rintro e x3 ⟨rfl, hb⟩
          have HB3 : Held (Below W0 w x3) := ⟨HB2.out.trans (hb.mono (by have := HB2.out.size; rw [HW0.out] at this; exact this))⟩
          have HC3 := Held.mk (HC2.out.below hb)
          clear hb HB2 HC2
          rw [Hbx.out]
          go_wp2_with fail
          refine (hasB_any g bb wk xs n x3 HC3.out Hnd.out).mono ?_
          rintro e x4 ⟨q, hq, rfl, hb⟩
          have HB4 : Held (Below W0 w x4) := ⟨HB3.out.trans (hb.mono (by have := HB3.out.size; rw [HW0.out] at this; exact this))⟩
          have HC4 := Held.mk (HC3.out.below hb)
          have Hq := Held.mk hq
          clear hb hq HB3 HC3
          have HL : Held (∀ (i : Int) (wq : World), Held (CalW wq g bb wk xs) → Held (Below W0 w wq) → True) := ⟨fun _ _ _ _ => trivial⟩
          cases q
          · go_wp2
            go_loopw [11] (fun u wq => ∃ i : Int, u = .int .i64 i ∧ (n ≤ i ∧ i ≤ x ∨ x ≤ i ∧ i ≤ n) ∧ Held (CalW wq g bb wk xs) ∧ Held (Below W0 w wq)) (fun u _ => (if n ≤ x then intOf u - n else n - intOf u).toNat)
            case atStart => exact ⟨x, rfl, by omega, HC4, HB4⟩
            case round =>
              obtain ⟨i, rfl, hi, HCq, HBq⟩ := hrel
              clear HC4 HB4
              by_cases he : i = n
              · subst he
                go_wp2
                go_roundw
                case rel => exact ⟨4, by first | rfl | go_num, by omega, HCq, HBq⟩
                case measure => simp [intOf]
              · have hne : (i != n) = true := by simp [he]
                by_cases hl : i < n
                · go_wp2
                  go_roundw
                  case rel => exact ⟨(i + 1), by first | rfl | go_num, by omega, HCq, HBq⟩
                  case measure =>
                    by_cases hnx : n ≤ x
                    · simp [intOf, hnx]; omega
                    · simp [intOf, hnx]; omega
                · go_wp2
                  go_roundw
                  case rel => exact ⟨(i - 1), by first | rfl | go_num, by omega, HCq, HBq⟩
                  case measure =>
                    by_cases hnx : n ≤ x
                    · simp [intOf, hnx]; omega
                    · simp [intOf, hnx]; omega
          · go_wp2_with fail
            refine (month_in x n x4 Hxd.out Hnd.out).mono ?_
            rintro e x5 ⟨q, hq, rfl, hb⟩
            obtain rfl : q = true := hq.2 (HA.out.month x rfl (by decide) (Hq.out (by simp)))
            have HB5 : Held (Below W0 w x5) := ⟨HB4.out.trans (hb.mono (by have := HB4.out.size; rw [HW0.out] at this; exact this))⟩
            have HC5 := Held.mk (HC4.out.below hb)
            clear hb hq HB4 HC4
            go_wp2
            go_loopw [11] (fun u wq => ∃ i : Int, u = .int .i64 i ∧ (n ≤ i ∧ i ≤ x ∨ x ≤ i ∧ i ≤ n) ∧ Held (CalW wq g bb wk xs) ∧ Held (Below W0 w wq)) (fun u _ => (if n ≤ x then intOf u - n else n - intOf u).toNat)
            case atStart => exact ⟨x, rfl, by omega, HC5, HB5⟩
            case round =>
              obtain ⟨i, rfl, hi, HCq, HBq⟩ := hrel
              clear HC5 HB5
              by_cases he : i = n
              · subst he
                go_wp2
                go_roundw
                case rel => exact ⟨4, by first | rfl | go_num, by omega, HCq, HBq⟩
                case measure => simp [intOf]
              · have hne : (i != n) = true := by simp [he]
                by_cases hl : i < n
                · go_wp2
                  go_roundw
                  case rel => exact ⟨(i + 1), by first | rfl | go_num, by omega, HCq, HBq⟩
                  case measure =>
                    by_cases hnx : n ≤ x
                    · simp [intOf, hnx]; omega
                    · simp [intOf, hnx]; omega
                · go_wp2
                  go_roundw
                  case rel => exact ⟨(i - 1), by first | rfl | go_num, by omega, HCq, HBq⟩
                  case measure =>
                    by_cases hnx : n ≤ x
                    · simp [intOf, hnx]; omega
                    · simp [intOf, hnx]; omega
        · go_wp2_with fail
          refine (business_any g bb wk xs x x2 HC2.out).mono ?_
          rintro e x3 ⟨rfl, hb⟩
          have HB3 : Held (Below W0 w x3) := ⟨HB2.out.trans (hb.mono (by have := HB2.out.size; rw [HW0.out] at this; exact this))⟩
          have HC3 := Held.mk (HC2.out.below hb)
          clear hb HB2 HC2
          rw [Hbx.out]
          go_wp2_with fail
          refine (hasB_any g bb wk xs n x3 HC3.out Hnd.out).mono ?_
          rintro e x4 ⟨q, hq, rfl, hb⟩
          have HB4 : Held (Below W0 w x4) := ⟨HB3.out.trans (hb.mono (by have := HB3.out.size; rw [HW0.out] at this; exact this))⟩
          have HC4 := Held.mk (HC3.out.below hb)
          have Hq := Held.mk hq
          clear hb hq HB3 HC3
          have HL : Held (∀ (i : Int) (wq : World), Held (CalW wq g bb wk xs) → Held (Below W0 w wq) → True) := ⟨fun _ _ _ _ => trivial⟩
          cases q
          · go_wp2
            go_loopw [11] (fun u wq => ∃ i : Int, u = .int .i64 i ∧ (n ≤ i ∧ i ≤ x ∨ x ≤ i ∧ i ≤ n) ∧ Held (CalW wq g bb wk xs) ∧ Held (Below W0 w wq)) (fun u _ => (if n ≤ x then intOf u - n else n - intOf u).toNat)
            case atStart => exact ⟨x, rfl, by omega, HC4, HB4⟩
            case round =>
              obtain ⟨i, rfl, hi, HCq, HBq⟩ := hrel
              clear HC4 HB4
              by_cases he : i = n
              · subst he
                go_wp2
                go_roundw
                case rel => exact ⟨4, by first | rfl | go_num, by omega, HCq, HBq⟩
                case measure => simp [intOf]
              · have hne : (i != n) = true := by simp [he]
                by_cases hl : i < n
                · go_wp2
                  go_roundw
                  case rel => exact ⟨(i + 1), by first | rfl | go_num, by omega, HCq, HBq⟩
                  case measure =>
                    by_cases hnx : n ≤ x
                    · simp [intOf, hnx]; omega
                    · simp [intOf, hnx]; omega
                · go_wp2
                  go_roundw
                  case rel => exact ⟨(i - 1), by first | rfl | go_num, by omega, HCq, HBq⟩
                  case measure =>
                    by_cases hnx : n ≤ x
                    · simp [intOf, hnx]; omega
                    · simp [intOf, hnx]; omega
          · go_wp2_with fail
            refine (month_in x n x4 Hxd.out Hnd.out).mono ?_
            rintro e x5 ⟨q, hq, rfl, hb⟩
            obtain rfl : q = true := hq.2 (HA.out.month x rfl (by decide) (Hq.out (by simp)))
            have HB5 : Held (Below W0 w x5) := ⟨HB4.out.trans (hb.mono (by have := HB4.out.size; rw [HW0.out] at this; exact this))⟩
            have HC5 := Held.mk (HC4.out.below hb)
            clear hb hq HB4 HC4
            go_wp2
            go_loopw [11] (fun u wq => ∃ i : Int, u = .int .i64 i ∧ (n ≤ i ∧ i ≤ x ∨ x ≤ i ∧ i ≤ n) ∧ Held (CalW wq g bb wk xs) ∧ Held (Below W0 w wq)) (fun u _ => (if n ≤ x then intOf u - n else n - intOf u).toNat)
            case atStart => exact ⟨x, rfl, by omega, HC5, HB5⟩
            case round =>
              obtain ⟨i, rfl, hi, HCq, HBq⟩ := hrel
              clear HC5 HB5
              by_cases he : i = n
              · subst he
                go_wp2
                go_roundw
                case rel => exact ⟨4, by first | rfl | go_num, by omega, HCq, HBq⟩
                case measure => simp [intOf]
              · have hne : (i != n) = true := by simp [he]
                by_cases hl : i < n
                · go_wp2
                  go_roundw
                  case rel => exact ⟨(i + 1), by first | rfl | go_num, by omega, HCq, HBq⟩
                  case measure =>
                    by_cases hnx : n ≤ x
                    · simp [intOf, hnx]; omega
                    · simp [intOf, hnx]; omega
                · go_wp2
                  go_roundw
                  case rel => exact ⟨(i - 1), by first | rfl | go_num, by omega, HCq, HBq⟩
                  case measure =>
                    by_cases hnx : n ≤ x
                    · simp [intOf, hnx]; omega
                    · simp [intOf, hnx]; omega
    · go_wp2_with fail
      refine (of_in n wr Hnd.out.1 Hnd.out.2).mono ?_
      rintro e x1 ⟨y, m, d, rfl, hR, hN, hb⟩
      have HB1 : Held (Below W0 w x1) := ⟨HB.out.trans (hb.mono (by have := HB.out.size; rw [HW0.out] at this; exact this))⟩
      have HR := Held.mk hR
      have HN := Held.mk hN
      have hy1 := hR.y1
      have hy2 := hR.y2
      have hm1 := hR.m1
      have hm2 := hR.m2
      have hd1 := hR.d1
      have hd31 : d ≤ 31 := Int.le_trans hR.d2 (len_hi y m hm1 hm2)
      clear hb HB HC hR hN
      unfold Dt
      have hI := Hk.out
      unfold I64 at hI
      have HNA := Held.mk (Blk.new x1 23 #[.int .i64 y, .int .i64 m, .int .i64 d])
      have HBA : Held (Below W0 w (x1.alloc (.cells #[.int .i64 y, .int .i64 m, .int .i64 d] 23))) := ⟨HB1.out.alloc (by have := HB1.out.size; rw [HW0.out] at this; exact this) _⟩
      go_wp2_with fail
      generalize x1.alloc (.cells #[.int .i64 y, .int .i64 m, .int .i64 d] 23) = xA at *
      generalize x1.heap.size = gA at *
      have hgA := HNA.out.lt
      clear HB1
      by_cases hkr : -119988 ≤ k ∧ k ≤ 119988
      · obtain ⟨hk1, hk2⟩ := hkr
        refine (months_any n k y m d xA HR.out HN.out hk1 hk2).mono ?_
        rintro e x2 ⟨hb, he⟩
        have HB2 : Held (Below W0 w x2) := ⟨HBA.out.trans (hb.mono (by have := HBA.out.size; rw [HW0.out] at this; exact this))⟩
        have HN2 := Held.mk (HNA.out.keep (Keep.of_below hb (fun _ => False)) (fun h => h))
        have hs2 := hb.size
        clear hb HBA HNA
        obtain ⟨t, ht⟩ : ∃ t, 12 * y + m - 1 + k = t := ⟨_, rfl⟩
        rw [ht] at he
        have Ht := Held.mk ht
        have k0 := HN2.out.cell 0
        have k1 := HN2.out.cell 1
        have k2 := HN2.out.cell 2
        simp at k0 k1 k2
        by_cases htr : t < 12 ∨ 120000 ≤ t
        · rw [if_pos htr] at he
          subst he
          unfold noDayV
          have c1 : decide (k < -119988) = false := decide_eq_false (by omega)
          have hcs : decide (119987 < k) = true ∨ decide (119987 < k) = false ∧ decide (y * 12 + m - 1 + k < 12) = true ∨ decide (119987 < k) = false ∧ decide (y * 12 + m - 1 + k < 12) = false ∧ decide (119999 < y * 12 + m - 1 + k) = true := by
            simp only [decide_eq_true_eq, decide_eq_false_iff_not]
            omega
          clear htr ht
          rcases hcs with h1 | ⟨h1, h2⟩ | ⟨h1, h2, h3⟩
          · go_wp2
            go_ret
            exact ⟨rfl, HB2.out⟩
          · go_wp2
            go_ret
            exact ⟨rfl, HB2.out⟩
          · go_wp2
            go_ret
            exact ⟨rfl, HB2.out⟩
        · rw [if_neg htr] at he
          subst he
          have hrm := right_months (t := t) (d := d) (by omega) (by omega) hd1
          have Hrm := Held.mk hrm
          have hml := hrm.last
          have hmle := min_le d (lengthI (t / 12) (t % 12 + 1))
          have hm28 : d ≤ 28 → minI d (lengthI (t / 12) (t % 12 + 1)) = d := fun h => min_28 h (len_lo (t / 12) (t % 12 + 1) (by omega) (by omega))
          clear hrm
          obtain ⟨Y, hY⟩ : ∃ Y, t / 12 = Y := ⟨_, rfl⟩
          obtain ⟨M, hM⟩ : ∃ M, t % 12 + 1 = M := ⟨_, rfl⟩
          have hYM : Y * 12 + M = y * 12 + m + k := by omega
          have hY1 : 1 ≤ Y := by omega
          have hY2 : Y ≤ 9999 := by omega
          have hM1 : 1 ≤ M := by omega
          have hM2 : M ≤ 12 := by omega
          obtain ⟨Dd, hDd⟩ : ∃ Dd, minI d (lengthI (t / 12) (t % 12 + 1)) = Dd := ⟨_, rfl⟩
          have Hmi : Held (monthsI t d = numI Y M Dd) := ⟨by unfold monthsI; rw [hDd, hY, hM]⟩
          rw [hDd, hY, hM] at hml
          rw [hDd] at hmle hm28
          have Hrm2 : Held (Right Y M Dd) := ⟨by have := Hrm.out; rwa [hDd, hY, hM] at this⟩
          have Hm28 := Held.mk hm28
          rw [Hmi.out]
          obtain ⟨q, hq⟩ : ∃ q, numI Y M Dd = q := ⟨_, rfl⟩
          rw [hq] at hml ⊢
          have Hq := Held.mk hq
          obtain ⟨hq1, hq2⟩ := hml
          have hD1 := Hrm2.out.d1
          have hD31 : Dd ≤ 31 := by omega
          clear hY hM hDd hm28 hq htr ht Hmi Hrm
          go_wp2_with fail
          refine (of_in q x2 hq1 hq2).mono ?_
          rintro e x3 ⟨y3, m3, d3, rfl, hR3, hN3, hb⟩
          obtain ⟨rfl, rfl, rfl⟩ := hR3.inj Hrm2.out (by rw [hN3, Hq.out])
          have HB3 : Held (Below W0 w x3) := ⟨HB2.out.trans (hb.mono (by have := HB2.out.size; rw [HW0.out] at this; exact this))⟩
          have HN3 := Held.mk (HN2.out.keep (Keep.of_below hb (fun _ => False)) (fun h => h))
          clear hb hR3 hN3 HB2 HN2 k0 k1 k2
          unfold Dt
          have HN4 := Held.mk (HN3.out.alloc (.cells #[.int .i64 y3, .int .i64 m3, .int .i64 d3] 23))
          have HN5 := Held.mk (Blk.new x3 23 #[.int .i64 y3, .int .i64 m3, .int .i64 d3])
          have HB4 : Held (Below W0 w (x3.alloc (.cells #[.int .i64 y3, .int .i64 m3, .int .i64 d3] 23))) := ⟨HB3.out.alloc (by have := HB3.out.size; rw [HW0.out] at this; exact this) _⟩
          have k0 : (x3.alloc (.cells #[.int .i64 y3, .int .i64 m3, .int .i64 d3] 23)).cell? ⟨gA, 0, none⟩ = some (.int .i64 y) := HN4.out.cell 0
          have k1 : (x3.alloc (.cells #[.int .i64 y3, .int .i64 m3, .int .i64 d3] 23)).cell? ⟨gA, 1, none⟩ = some (.int .i64 m) := HN4.out.cell 1
          have k2 : (x3.alloc (.cells #[.int .i64 y3, .int .i64 m3, .int .i64 d3] 23)).cell? ⟨gA, 2, none⟩ = some (.int .i64 d) := HN4.out.cell 2
          have j0 : (x3.alloc (.cells #[.int .i64 y3, .int .i64 m3, .int .i64 d3] 23)).cell? ⟨x3.heap.size, 0, none⟩ = some (.int .i64 y3) := HN5.out.cell 0
          have j1 : (x3.alloc (.cells #[.int .i64 y3, .int .i64 m3, .int .i64 d3] 23)).cell? ⟨x3.heap.size, 1, none⟩ = some (.int .i64 m3) := HN5.out.cell 1
          have j2 : (x3.alloc (.cells #[.int .i64 y3, .int .i64 m3, .int .i64 d3] 23)).cell? ⟨x3.heap.size, 2, none⟩ = some (.int .i64 d3) := HN5.out.cell 2
          have c1 : (y3 * 12 + m3 != y * 12 + m + k) = false := by simp [hYM]
          have c2 : decide (d < d3) = false := decide_eq_false (by omega)
          have hcs : decide (d ≤ 28) = true ∧ decide (28 < d) = false ∧ d3 = d ∨ decide (d ≤ 28) = false ∧ decide (28 < d) = true := by
            by_cases h : d ≤ 28
            · exact .inl ⟨decide_eq_true h, decide_eq_false (by omega), Hm28.out h⟩
            · exact .inr ⟨decide_eq_false h, decide_eq_true (by omega)⟩
          have Hbk : Held (12 * y3 + m3 - 1 + -k = 12 * y + m - 1) := ⟨by omega⟩
          have hnk1 : -119988 ≤ -k := by omega
          have hnk2 : -k ≤ 119988 := by omega
          have hI2 : wrap64 (-k) = -k := IntWalk.wrap64_in _ (by omega)
          rcases hcs with ⟨h1, h2, h3⟩ | ⟨h1, h2⟩
          · subst h3
            clear hYM
            go_wp2_with fail
            generalize x3.alloc (.cells #[.int .i64 y3, .int .i64 m3, .int .i64 d3] 23) = xC at *
            refine (months_any q (-k) y3 m3 d3 xC Hrm2.out Hq.out hnk1 hnk2).mono ?_
            rintro e x5 ⟨hb, he⟩
            rw [Hbk.out, if_neg (by omega), months_back HR.out rfl (by simpa using h1), HN.out] at he
            subst he
            have HB5 : Held (Below W0 w x5) := ⟨HB4.out.trans (hb.mono (by have := HB4.out.size; rw [HW0.out] at this; exact this))⟩
            have i2 := (hb.cell (p := ⟨gA, 2, none⟩) (World.block_lt_of_cell? _ _ k2)).trans k2
            clear hb
            go_wp2
            go_ret
            exact ⟨rfl, HB5.out⟩
          · clear hYM
            go_wp2_with fail
            generalize x3.alloc (.cells #[.int .i64 y3, .int .i64 m3, .int .i64 d3] 23) = xC at *
            refine (months_any q (-k) y3 m3 d3 xC Hrm2.out Hq.out hnk1 hnk2).mono ?_
            rintro e x5 ⟨hb, he⟩
            rw [Hbk.out, if_neg (by omega)] at he
            subst he
            have HB5 : Held (Below W0 w x5) := ⟨HB4.out.trans (hb.mono (by have := HB4.out.size; rw [HW0.out] at this; exact this))⟩
            have i2 := (hb.cell (p := ⟨gA, 2, none⟩) (World.block_lt_of_cell? _ _ k2)).trans k2
            clear hb
            generalize monthsI (12 * y + m - 1) d3 = bk at *
            go_wp2
            go_ret
            exact ⟨rfl, HB5.out⟩
      · have Hkr := Held.mk hkr
        have hcs : decide (k < -119988) = true ∨ decide (k < -119988) = false ∧ decide (119987 < k) = true := by
          simp only [decide_eq_true_eq, decide_eq_false_iff_not]
          omega
        clear hkr
        refine (months_out n k xA (fun h => Hkr.out h.2)).mono ?_
        rintro e x2 ⟨rfl, rfl⟩
        unfold noDayV
        rcases hcs with h1 | ⟨h1, h2⟩
        · go_wp2
          go_ret
          exact ⟨rfl, HBA.out⟩
        · go_wp2
          go_ret
          exact ⟨rfl, HBA.out⟩
end Cal
end Go.Proofs.Ytlnkdgjlbpldpaa
