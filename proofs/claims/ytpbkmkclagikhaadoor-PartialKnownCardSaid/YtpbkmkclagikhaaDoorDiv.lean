/- math/bits.Div64, walked. -/
import Derived.Test.YtpbkmkclagikhaaDoorProg
import Derived.Test.YtpbkmkclagikhaaDoorMem
import Derived.Test.YtpbkmkclagikhaaDoorKnu
import Derived.Test.YtpbkmkclagikhaaDoorShelf
import Derived.Laws.BitsAllLaws
import Derived.Laws.BitsLemmas
import Derived.Lib.ItoaNum
import Derived.BigQuiet
import Derived.Deep.QuietTactic
import Derived.Outline
import Derived.Deep.DeepCutAuto
import Derived.Deep.CutBlock
namespace Go.Proofs.YtpbkmkclagikhaaDoor
set_option linter.unusedVariables false
set_option linter.unusedSimpArgs false
namespace Dvs
open Go.RowKit Mem
theorem wrap_u64 (x : Int) : IntKind.u64.wrap x = x % 18446744073709551616 := by
  simp [IntKind.wrap, IntKind.signed, IntKind.bits]
theorem wrap_nat (x : Nat) (h : x < 18446744073709551616) : IntKind.u64.wrap (x : Int) = (x : Int) := by
  rw [wrap_u64]; omega
set_option maxHeartbeats 4000000 in
set_option maxRecDepth 100000 in
theorem div_small (lo y : Nat) (w : World) (hy : 0 < y) (hy2 : y < 18446744073709551616) (hl : lo < 18446744073709551616) :
    Calls Tryd.prog 67 #[.int .u64 0, .int .u64 lo, .int .u64 y] w fun e w' => e = .returned (.tuple #[.int .u64 ((lo / y : Nat) : Int), .int .u64 ((lo % y : Nat) : Int)]) ∧ ∃ n, w' = w.drewN n := by
  have h0 : ((y : Int) == 0) = false := beq_eq_false_iff_ne.2 (by omega)
  have hd : IntKind.u64.wrap ((lo : Int) / (y : Int)) = ((lo / y : Nat) : Int) := by
    rw [show (lo : Int) / (y : Int) = ((lo / y : Nat) : Int) from rfl]
    exact wrap_nat _ (Nat.lt_of_le_of_lt (Nat.div_le_self _ _) hl)
  have HD := Held.mk hd
  clear hd
  go_enter Tryd.func67, Tryd.ntmps67
  go_wp2
  go_quiet (fail)
  go_wp2
  go_ret2
  rw [HD.out]
  exact ⟨rfl, _, rfl⟩
theorem low64 (un u1 q Y y1 y0 : Nat) (hY : Y = y1 * 4294967296 + y0) (h : Knu.Quo y1 y0 un u1 q) (hYl : Y < 18446744073709551616) (hu : un < Y) :
    IntKind.u64.wrap (IntKind.u64.wrap (IntKind.u64.wrap ((un : Int) * 4294967296) + (u1 : Int)) - IntKind.u64.wrap ((q : Int) * (Y : Int))) = ((un * 4294967296 + u1 - q * (y1 * 4294967296 + y0) : Nat) : Int) := by
  have h1 := h.lo
  have h2 := h.rest
  rw [← hY] at *
  simp only [wrap_u64]
  rw [← Int.natCast_mul q Y]
  generalize q * Y = a at *
  omega
theorem q_lt (un y1 y0 : Nat) (h1 : 2147483648 ≤ y1) (h3 : y0 < 4294967296) (hu : un < y1 * 4294967296 + y0) : un / y1 < 8589934592 := by
  rw [Nat.div_lt_iff_lt_mul (by omega)]; omega
theorem rest64 (un y1 : Nat) (hu : un < 18446744073709551616) : IntKind.u64.wrap ((un : Int) - IntKind.u64.wrap (((un / y1 : Nat) : Int) * (y1 : Int))) = ((un - un / y1 * y1 : Nat) : Int) := by
  have h1 : un / y1 * y1 ≤ un := Nat.div_mul_le_self _ _
  simp only [wrap_u64]
  rw [← Int.natCast_mul]
  generalize un / y1 * y1 = a at *
  omega
set_option maxHeartbeats 4000000 in
set_option maxRecDepth 100000 in
theorem div_walk (hi lo y : Nat) (w : World) (hh : 0 < hi) (hy : hi < y) (hy2 : y < 18446744073709551616) (hl : lo < 18446744073709551616) (s Y y1 y0 un l10 u1 u0 : Nat) (hs : (64 : Int) - (Lib.bitLen (y : Int).toNat : Int) = (s : Int)) (hs1 : s < 64)
    (eY : IntKind.u64.wrap ((y : Int) * 2 ^ s) = (Y : Int)) (eY1 : (Y : Int) / 4294967296 = (y1 : Int)) (eY0 : bits .and .u64 (Y : Int) 4294967295 = (y0 : Int)) (h1 : 2147483648 ≤ y1) (h2 : y1 < 4294967296) (h3 : y0 < 4294967296)
    (hY : Held (Y = y1 * 4294967296 + y0))
    (eU : bits .or .u64 (IntKind.u64.wrap ((hi : Int) * 2 ^ s)) ((lo : Int) / 2 ^ (64 - s)) = (un : Int)) (eL : IntKind.u64.wrap ((lo : Int) * 2 ^ s) = (l10 : Int)) (eL1 : (l10 : Int) / 4294967296 = (u1 : Int)) (eL0 : bits .and .u64 (l10 : Int) 4294967295 = (u0 : Int)) (h4 : u1 < 4294967296) (h5 : u0 < 4294967296) (hun : un < Y) (hYlt : Y < 18446744073709551616)
    (q1 r1 : Nat) (eQ : (un : Int) / (y1 : Int) = (q1 : Int)) (eR : IntKind.u64.wrap ((un : Int) - IntKind.u64.wrap ((q1 : Int) * (y1 : Int))) = (r1 : Int)) (hE : Held (Knu.Est y1 y0 un u1 q1 r1)) (hr1 : Held (r1 < 4294967296)) (hq1 : Held (q1 < 8589934592))
    (post : Ending → World → Prop) (HP : Held (∀ q q0 un21 : Nat, Knu.Quo y1 y0 un u1 q → un21 = un * 4294967296 + u1 - q * Y → Knu.Quo y1 y0 un21 u0 q0 → post (.returned (.tuple #[.int .u64 ((q * 4294967296 + q0 : Nat) : Int), .int .u64 (((un21 * 4294967296 + u0 - q0 * Y) / 2 ^ s : Nat) : Int)])) w)) :
    Calls Tryd.prog 67 #[.int .u64 hi, .int .u64 lo, .int .u64 y] w post := by
  have HS := Held.mk hs
  have hd0 : ((y1 : Int) == 0) = false := beq_eq_false_iff_ne.2 (by omega)
  have hd1 : ((y : Int) == 0) = false := beq_eq_false_iff_ne.2 (by omega)
  have hd2 : ((hi : Int) == 0) = false := beq_eq_false_iff_ne.2 (by omega)
  have hd3 : decide (y ≤ hi) = false := decide_eq_false_iff_not.2 (by omega)
  clear hs
  go_enter Tryd.func67, Tryd.ntmps67
  go_wp2_with fail
  refine (Tryd.bits_LeadingZeros64 y _ (by omega) (by omega)).mono ?_
  rintro e w1 ⟨rfl, rfl⟩
  rw [HS.out]
  dsimp only
  have eW : IntKind.u64.wrap (q1 : Int) = (q1 : Int) := Dvs.wrap_nat _ (by have := hq1.out; omega)
  have i2 : (y1 : Int) < 4294967296 := by omega
  have i1 : (2147483648 : Int) ≤ (y1 : Int) := by omega
  have i3 : (y0 : Int) < 4294967296 := by omega
  have i4 : (u1 : Int) < 4294967296 := by omega
  have i5 : (u0 : Int) < 4294967296 := by omega
  have H1 := Held.mk h1
  have H2 := Held.mk h2
  have H3 := Held.mk h3
  have H4 := Held.mk h4
  have H5 := Held.mk h5
  have HUN := Held.mk hun
  have HU : Held (un < y1 * 4294967296 + y0) := ⟨by rw [← hY.out]; exact hun⟩
  have HYL := Held.mk hYlt
  clear h1 h2 h3 h4 h5 hun hYlt hy2 hl
  go_upto_block 0 with fail
  go_cut [15] (fun s15 wx => ∃ q : Nat, s15 = .int .u64 q ∧ Held (Knu.Quo y1 y0 un u1 q) ∧ wx = w1)
  case first =>
    clear HP eY eY0 eU eL eL1 eL0 eQ eR eW
    go_wp2_with fail
    go_loop [15, 16] (fun a b => ∃ q r : Nat, a = .int .u64 q ∧ b = .int .u64 r ∧ Held (Knu.Est y1 y0 un u1 q r) ∧ Held (r < 4294967296) ∧ Held (q < 8589934592)) (fun _ b => 4294967296 - (intOf b).toNat)
    case atStart => exact ⟨q1, r1, rfl, rfl, hE, hr1, hq1⟩
    case round =>
      obtain ⟨q, r, rfl, rfl, HE, Hr, Hq⟩ := hrel
      have hr : (r : Int) < 4294967296 := by have := Hr.out; omega
      have hq : (q : Int) < 8589934592 := by have := Hq.out; omega
      by_cases hA : 4294967296 ≤ q
      · have HN := Held.mk (HE.out.far H4.out HU.out hA)
        obtain ⟨p, rfl⟩ : ∃ p, q = p + 1 := ⟨q - 1, by omega⟩
        have hA' : (4294967296 : Int) ≤ ((p + 1 : Nat) : Int) := by omega
        have hp0 : (4294967295 : Int) ≤ (p : Int) := by omega
        simp only [Int.natCast_add, Int.cast_ofNat_Int] at hA' hq
        have HQ := Held.mk (show p < 8589934592 by have := Hq.out; omega)
        clear hA Hq
        by_cases hB : 4294967296 ≤ r + y1
        · have hB' : (4294967296 : Int) ≤ (r : Int) + (y1 : Int) := by omega
          have HQ := Held.mk (HN.out.stop H3.out HU.out hB)
          clear hB
          go_wp2
          go_meet
          exact ⟨p, rfl, HQ, rfl⟩
        · have hB' : decide ((4294967296 : Int) ≤ (r : Int) + (y1 : Int)) = false := decide_eq_false_iff_not.2 (by omega)
          have HB := Held.mk (show r + y1 < 4294967296 by omega)
          clear hB
          go_wp2
          go_round
          case rel => exact ⟨p, r + y1, rfl, by rw [Int.natCast_add], HN, HB, HQ⟩
          case measure =>
            have := H1.out
            have := HB.out
            simp [intOf]
            omega
      · have hA' : decide ((4294967296 : Int) ≤ (q : Int)) = false := decide_eq_false_iff_not.2 (by omega)
        have hA2 : (q : Int) ≤ 4294967295 := by omega
        have hb : (q : Int) * (y0 : Int) ≤ 18446744069414584320 := by
          have := H3.out
          have := Nat.mul_le_mul (show q ≤ 4294967295 by omega) (show y0 ≤ 4294967295 by omega)
          rw [← Int.natCast_mul]; omega
        have hb0 : (0 : Int) ≤ (q : Int) * (y0 : Int) := Int.mul_nonneg (by omega) (by omega)
        by_cases hC : 4294967296 * r + u1 < q * y0
        · have HN := Held.mk (HE.out.over hC)
          have hq0 : 0 < q := by
            rcases Nat.eq_zero_or_pos q with h | h
            · subst h; simp at hC
            · exact h
          have hC' : 4294967296 * (r : Int) + (u1 : Int) < (q : Int) * (y0 : Int) := by
            rw [← Int.natCast_mul]; omega
          have hq1 : (1 : Int) ≤ (q : Int) := by omega
          have hqe : (q : Int) - 1 = ((q - 1 : Nat) : Int) := by omega
          have HQ' := Held.mk (show q - 1 < 8589934592 by have := Hq.out; omega)
          have HX := Held.mk hqe
          clear hC hA hqe
          by_cases hB : 4294967296 ≤ r + y1
          · have hB' : (4294967296 : Int) ≤ (r : Int) + (y1 : Int) := by omega
            have HQ := Held.mk (HN.out.stop H3.out HU.out hB)
            clear hB
            go_wp2
            go_meet
            exact ⟨q - 1, by rw [HX.out], HQ, rfl⟩
          · have hB' : decide ((4294967296 : Int) ≤ (r : Int) + (y1 : Int)) = false := decide_eq_false_iff_not.2 (by omega)
            have HB := Held.mk (show r + y1 < 4294967296 by omega)
            clear hB
            go_wp2
            go_round
            case rel => exact ⟨q - 1, r + y1, by rw [HX.out], by rw [Int.natCast_add], HN, HB, HQ'⟩
            case measure =>
              have := H1.out
              have := HB.out
              simp [intOf]
              omega
        · have HN := Held.mk (HE.out.done (by omega) (by omega))
          have hC' : decide (4294967296 * (r : Int) + (u1 : Int) < (q : Int) * (y0 : Int)) = false := by
            rw [decide_eq_false_iff_not, ← Int.natCast_mul]; omega
          clear hC hA
          go_wp2
          go_meet
          exact ⟨q, rfl, HN, rfl⟩
  case rest =>
    obtain ⟨q, rfl, HQ, rfl⟩ := hcut
    have eD := Dvs.low64 un u1 q Y y1 y0 hY.out HQ.out HYL.out HUN.out
    have HU2 := Held.mk HQ.out.rest
    generalize hun21 : un * 4294967296 + u1 - q * (y1 * 4294967296 + y0) = un21 at *
    have HD := Held.mk hun21
    clear hun21 HU eQ eR eW
    have e1 : (un21 : Int) / (y1 : Int) = ((un21 / y1 : Nat) : Int) := rfl
    have e3 : IntKind.u64.wrap ((un21 / y1 : Nat) : Int) = ((un21 / y1 : Nat) : Int) := Dvs.wrap_nat _ (by have := Dvs.q_lt un21 y1 y0 H1.out H3.out HU2.out; omega)
    have HE2 := Held.mk (Knu.Est.start (y1 := y1) (y0 := y0) (un := un21) (u1 := u0) (by have := H1.out; omega) H5.out)
    have hr2 := Held.mk (Nat.lt_trans (Knu.Est.rest (un := un21) (y1 := y1) (by have := H1.out; omega)) H2.out)
    have hq2 := Held.mk (Dvs.q_lt un21 y1 y0 H1.out H3.out HU2.out)
    have e2 := Dvs.rest64 un21 y1 (by have := H2.out; have := H3.out; have := HU2.out; omega)
    generalize un21 - un21 / y1 * y1 = r2 at *
    generalize un21 / y1 = q2 at *
    have HU := HU2
    go_upto_block 2 with fail
    go_cut [18] (fun s18 wx => ∃ q0 : Nat, s18 = .int .u64 q0 ∧ Held (Knu.Quo y1 y0 un21 u0 q0) ∧ wx = wc)
    case first =>
      clear HP eY eY0 eU eL eL1 eL0 e1 e2 e3 eD
      go_wp2_with fail
      go_loop [18, 16] (fun a b => ∃ q r : Nat, a = .int .u64 q ∧ b = .int .u64 r ∧ Held (Knu.Est y1 y0 un21 u0 q r) ∧ Held (r < 4294967296) ∧ Held (q < 8589934592)) (fun _ b => 4294967296 - (intOf b).toNat)
      case atStart => exact ⟨q2, r2, rfl, rfl, HE2, hr2, hq2⟩
      case round =>
        obtain ⟨q, r, rfl, rfl, HE, Hr, Hq⟩ := hrel
        have hr : (r : Int) < 4294967296 := by have := Hr.out; omega
        have hq : (q : Int) < 8589934592 := by have := Hq.out; omega
        by_cases hA : 4294967296 ≤ q
        · have HN := Held.mk (HE.out.far H5.out HU.out hA)
          obtain ⟨p, rfl⟩ : ∃ p, q = p + 1 := ⟨q - 1, by omega⟩
          have hA' : (4294967296 : Int) ≤ ((p + 1 : Nat) : Int) := by omega
          have hp0 : (4294967295 : Int) ≤ (p : Int) := by omega
          simp only [Int.natCast_add, Int.cast_ofNat_Int] at hA' hq
          have HQ := Held.mk (show p < 8589934592 by have := Hq.out; omega)
          clear hA Hq
          by_cases hB : 4294967296 ≤ r + y1
          · have hB' : (4294967296 : Int) ≤ (r : Int) + (y1 : Int) := by omega
            have HQ := Held.mk (HN.out.stop H3.out HU.out hB)
            clear hB
            go_wp2
            go_meet
            exact ⟨p, rfl, HQ, rfl⟩
          · have hB' : decide ((4294967296 : Int) ≤ (r : Int) + (y1 : Int)) = false := decide_eq_false_iff_not.2 (by omega)
            have HB := Held.mk (show r + y1 < 4294967296 by omega)
            clear hB
            go_wp2
            go_round
            case rel => exact ⟨p, r + y1, rfl, by rw [Int.natCast_add], HN, HB, HQ⟩
            case measure =>
              have := H1.out
              have := HB.out
              simp [intOf]
              omega
        · have hA' : decide ((4294967296 : Int) ≤ (q : Int)) = false := decide_eq_false_iff_not.2 (by omega)
          have hA2 : (q : Int) ≤ 4294967295 := by omega
          have hb : (q : Int) * (y0 : Int) ≤ 18446744069414584320 := by
            have := H3.out
            have := Nat.mul_le_mul (show q ≤ 4294967295 by omega) (show y0 ≤ 4294967295 by omega)
            rw [← Int.natCast_mul]; omega
          have hb0 : (0 : Int) ≤ (q : Int) * (y0 : Int) := Int.mul_nonneg (by omega) (by omega)
          by_cases hC : 4294967296 * r + u0 < q * y0
          · have HN := Held.mk (HE.out.over hC)
            have hq0 : 0 < q := by
              rcases Nat.eq_zero_or_pos q with h | h
              · subst h; simp at hC
              · exact h
            have hC' : 4294967296 * (r : Int) + (u0 : Int) < (q : Int) * (y0 : Int) := by
              rw [← Int.natCast_mul]; omega
            have hq1 : (1 : Int) ≤ (q : Int) := by omega
            have hqe : (q : Int) - 1 = ((q - 1 : Nat) : Int) := by omega
            have HQ' := Held.mk (show q - 1 < 8589934592 by have := Hq.out; omega)
            have HX := Held.mk hqe
            clear hC hA hqe
            by_cases hB : 4294967296 ≤ r + y1
            · have hB' : (4294967296 : Int) ≤ (r : Int) + (y1 : Int) := by omega
              have HQ := Held.mk (HN.out.stop H3.out HU.out hB)
              clear hB
              go_wp2
              go_meet
              exact ⟨q - 1, by rw [HX.out], HQ, rfl⟩
            · have hB' : decide ((4294967296 : Int) ≤ (r : Int) + (y1 : Int)) = false := decide_eq_false_iff_not.2 (by omega)
              have HB := Held.mk (show r + y1 < 4294967296 by omega)
              clear hB
              go_wp2
              go_round
              case rel => exact ⟨q - 1, r + y1, by rw [HX.out], by rw [Int.natCast_add], HN, HB, HQ'⟩
              case measure =>
                have := H1.out
                have := HB.out
                simp [intOf]
                omega
          · have HN := Held.mk (HE.out.done (by omega) (by omega))
            have hC' : decide (4294967296 * (r : Int) + (u0 : Int) < (q : Int) * (y0 : Int)) = false := by
              rw [decide_eq_false_iff_not, ← Int.natCast_mul]; omega
            clear hC hA
            go_wp2
            go_meet
            exact ⟨q, rfl, HN, rfl⟩
    case rest =>
      obtain ⟨q0, rfl, HQ0, rfl⟩ := hcut
      have HPF := HP.out q q0 un21 HQ.out (by rw [hY.out]; exact HD.out.symm) HQ0.out
      have eF := Dvs.low64 un21 u0 q0 Y y1 y0 hY.out HQ0.out HYL.out (by rw [hY.out]; exact HU2.out)
      have hq := HQ.out.lt
      have hq0 := HQ0.out.lt
      have eS : ((q * 4294967296 + q0 : Nat) : Int) = IntKind.u64.wrap (IntKind.u64.wrap ((q : Int) * 4294967296) + (q0 : Int)) := by
        simp only [Dvs.wrap_u64]; omega
      have eT : (((un21 * 4294967296 + u0 - q0 * Y) / 2 ^ s : Nat) : Int) = ((un21 * 4294967296 + u0 - q0 * (y1 * 4294967296 + y0) : Nat) : Int) / 2 ^ s := by
        rw [hY.out, Int.natCast_ediv, Int.natCast_pow]; rfl
      rw [eS, eT] at HPF
      clear hq hq0 eS eT
      have HPF := Held.mk HPF
      go_wp2
      exact HPF.out
theorem lens (y : Nat) (hy : 0 < y) (hy2 : y < 18446744073709551616) : ∃ s : Nat, (64 : Int) - (Lib.bitLen (y : Int).toNat : Int) = (s : Int) ∧ s < 64 ∧ 9223372036854775808 ≤ y * 2 ^ s ∧ y * 2 ^ s < 18446744073709551616 := by
  obtain ⟨h1, h2, h3⟩ := Lib.bitLenAux_bounds 64 y (by simpa using hy2) (by omega)
  have h4 : Lib.bitLenAux 64 y ≤ 64 := Lib.bitLen_le y 64 (Nat.le_refl _) (by simpa using hy2)
  have e : Lib.bitLen (y : Int).toNat = Lib.bitLenAux 64 y := rfl
  refine ⟨64 - Lib.bitLenAux 64 y, by rw [e]; omega, by omega, ?_, ?_⟩
  · have := Nat.mul_le_mul_right (2 ^ (64 - Lib.bitLenAux 64 y)) h2
    rw [← Nat.pow_add, show Lib.bitLenAux 64 y - 1 + (64 - Lib.bitLenAux 64 y) = 63 from by omega] at this
    exact this
  · have := Nat.mul_lt_mul_of_pos_right h3 (show 0 < 2 ^ (64 - Lib.bitLenAux 64 y) from Nat.pow_pos (by decide))
    rw [← Nat.pow_add, show Lib.bitLenAux 64 y + (64 - Lib.bitLenAux 64 y) = 64 from by omega] at this
    exact this
theorem mask32 (x : Nat) (hx : x < 18446744073709551616) : bits .and .u64 (x : Int) 4294967295 = ((x % 4294967296 : Nat) : Int) := by
  have h := u64_and_nat x 4294967295 hx (by omega)
  have e := Nat.and_two_pow_sub_one_eq_mod x 32
  simp only [show (2 : Nat) ^ 32 = 4294967296 from rfl, show (4294967296 : Nat) - 1 = 4294967295 from rfl] at e
  rw [e] at h
  exact h
theorem pow64 (s : Nat) (hs : s < 64) : (18446744073709551616 : Nat) = 2 ^ (64 - s) * 2 ^ s := by
  rw [← Nat.pow_add, Nat.sub_add_cancel (by omega)]
theorem high_or (hi lo s : Nat) (hs : s < 64) (hl : lo < 18446744073709551616) (hh : hi * 2 ^ s < 18446744073709551616) :
    bits .or .u64 (IntKind.u64.wrap ((hi : Int) * 2 ^ s)) ((lo : Int) / 2 ^ (64 - s)) = ((hi * 2 ^ s + lo / 2 ^ (64 - s) : Nat) : Int) := by
  have e1 : IntKind.u64.wrap ((hi : Int) * 2 ^ s) = ((hi * 2 ^ s : Nat) : Int) := by
    rw [show ((hi : Int) * 2 ^ s) = ((hi * 2 ^ s : Nat) : Int) from by rw [Int.natCast_mul, Int.natCast_pow]; rfl]
    exact wrap_nat _ hh
  have e2 : (lo : Int) / 2 ^ (64 - s) = ((lo / 2 ^ (64 - s) : Nat) : Int) := by
    rw [Int.natCast_ediv, Int.natCast_pow]; rfl
  have hlt : lo / 2 ^ (64 - s) < 2 ^ s := by
    rw [Nat.div_lt_iff_lt_mul (Nat.pow_pos (by decide)), Nat.mul_comm, ← pow64 s hs]; exact hl
  rw [e1, e2, u64_or_nat _ _ hh (Nat.lt_of_le_of_lt (Nat.div_le_self _ _) hl)]
  rw [← Nat.shiftLeft_eq, ← Nat.shiftLeft_add_eq_or_of_lt hlt]
theorem div_great (hi lo y : Nat) (w : World) (hh : 0 < hi) (hy : hi < y) (hy2 : y < 18446744073709551616) (hl : lo < 18446744073709551616) :
    Calls Tryd.prog 67 #[.int .u64 hi, .int .u64 lo, .int .u64 y] w fun e w' => e = .returned (.tuple #[.int .u64 (((hi * 18446744073709551616 + lo) / y : Nat) : Int), .int .u64 (((hi * 18446744073709551616 + lo) % y : Nat) : Int)]) ∧ w' = w := by
  obtain ⟨s, hs, hs1, hlo, hup⟩ := lens y (by omega) hy2
  have hp : 0 < 2 ^ s := Nat.pow_pos (by decide)
  have hm := Knu.moved hi lo s hs1
  have hun : hi * 2 ^ s + lo / 2 ^ (64 - s) < y * 2 ^ s := Knu.less hi lo y s _ _ hy hl hm
  have hh2 : hi * 2 ^ s < 18446744073709551616 := Nat.lt_trans (Nat.mul_lt_mul_of_pos_right hy hp) hup
  have eU := high_or hi lo s hs1 hl hh2
  have eY : IntKind.u64.wrap ((y : Int) * 2 ^ s) = ((y * 2 ^ s : Nat) : Int) := by
    rw [show ((y : Int) * 2 ^ s) = ((y * 2 ^ s : Nat) : Int) from by rw [Int.natCast_mul, Int.natCast_pow]; rfl]
    exact wrap_nat _ hup
  have eL : IntKind.u64.wrap ((lo : Int) * 2 ^ s) = ((lo * 2 ^ s % 18446744073709551616 : Nat) : Int) := by
    rw [wrap_u64, show ((lo : Int) * 2 ^ s) = ((lo * 2 ^ s : Nat) : Int) from by rw [Int.natCast_mul, Int.natCast_pow]; rfl]; rfl
  have hl10 : lo * 2 ^ s % 18446744073709551616 < 18446744073709551616 := Nat.mod_lt _ (by decide)
  generalize hi * 2 ^ s + lo / 2 ^ (64 - s) = un at *
  generalize hYe : y * 2 ^ s = Y at *
  generalize lo * 2 ^ s % 18446744073709551616 = l10 at *
  have hY : Y = Y / 4294967296 * 4294967296 + Y % 4294967296 := by omega
  have hL : l10 = l10 / 4294967296 * 4294967296 + l10 % 4294967296 := by omega
  have h1 : 2147483648 ≤ Y / 4294967296 := by omega
  have h2 : Y / 4294967296 < 4294967296 := by omega
  have h3 : Y % 4294967296 < 4294967296 := by omega
  have h4 : l10 / 4294967296 < 4294967296 := by omega
  have h5 : l10 % 4294967296 < 4294967296 := by omega
  have eY0 := mask32 Y hup
  have eL0 := mask32 l10 hl10
  have eY1 : (Y : Int) / 4294967296 = ((Y / 4294967296 : Nat) : Int) := by omega
  have eL1 : (l10 : Int) / 4294967296 = ((l10 / 4294967296 : Nat) : Int) := by omega
  generalize Y / 4294967296 = y1 at *
  generalize Y % 4294967296 = y0 at *
  generalize l10 / 4294967296 = u1 at *
  generalize l10 % 4294967296 = u0 at *
  have hun' : un < y1 * 4294967296 + y0 := by rw [← hY]; exact hun
  have eR := rest64 un y1 (by omega)
  refine div_walk hi lo y w hh hy hy2 hl s Y y1 y0 un l10 u1 u0 hs hs1 eY eY1 eY0 h1 h2 h3 ⟨hY⟩ eU eL eL1 eL0 h4 h5 hun hup (un / y1) (un - un / y1 * y1) rfl eR ⟨Knu.Est.start (by omega) h4⟩
    ⟨Nat.lt_trans (Knu.Est.rest (by omega)) h2⟩ ⟨q_lt un y1 y0 h1 h3 hun'⟩ _ ⟨fun q q0 un21 hQ h21 hQ0 => ?_⟩
  obtain ⟨e1, e2⟩ := Knu.sum2 un u1 u0 Y q q0 y1 y0 un21 hY hQ h21 hQ0
  rw [← hL, hm, ← hYe] at e1
  rw [← hYe] at e2
  obtain ⟨r1, r2⟩ := Knu.whole _ y s _ _ (by omega) e1 e2
  rw [hYe] at r2
  rw [r1, r2]
  exact ⟨rfl, rfl⟩
end Dvs
end Go.Proofs.YtpbkmkclagikhaaDoor
