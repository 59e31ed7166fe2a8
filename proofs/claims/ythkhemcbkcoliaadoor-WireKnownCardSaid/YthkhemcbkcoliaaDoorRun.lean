/- The document's number at the front of bytes: walked. -/
import Derived.Test.YthkhemcbkcoliaaDoorRsz
import Derived.Test.YthkhemcbkcoliaaDoorNum
namespace Go.Proofs.YthkhemcbkcoliaaDoor
set_option linter.unusedVariables false
set_option linter.unusedSimpArgs false
namespace Wire
open Go.RowKit Mem Apn
def Er.code : Er → Int
  | .ok => 0
  | .no k => k
  | .ref _ k => k
def numR (r : Nat × Nat × Er) : Value := .tuple #[.int .u64 r.1, .int .i64 r.2.1, .int .i64 r.2.2.code]
theorem size_bits (X m : Nat) (hX : X < 256 ^ m) (hm : 1 ≤ m) (hm8 : m ≤ 8) : Lib.bitLen X ≤ 8 * (m - 1) ↔ ¬ size X = m := by
  have h1 : Lib.bitLen X ≤ 8 * m := Lib.bitLen_le X (8 * m) (by omega) (by rw [Nat.pow_mul]; exact hX)
  unfold size
  omega
set_option maxHeartbeats 2000000 in
set_option maxRecDepth 100000 in
theorem runum_any (ok : Nat → Prop) (A : Option Addr) (n c : Nat) (xs : List Int) (w : World) (hr : RdN w ok .u8 A n xs) (hl : n ≤ 281474976710656) (hb : Byt xs) :
    Calls Tryd.prog 55 #[.slice A n c] w fun e w' => e = .returned (numR (num xs)) ∧ w = w' := by
  have hlen := Held.mk hr.len
  have hlI : (n : Int) ≤ 281474976710656 := by omega
  clear hl
  cases xs with
  | nil =>
    obtain rfl : n = 0 := by simpa using hlen.out.symm
    go_enter Tryd.func55, Tryd.ntmps55
    go_wp2
    go_ret3
    exact ⟨rfl, rfl⟩
  | cons x xs =>
    have hx := hb.head
    have hpos : 0 < n := by have := hlen.out; simp at this; omega
    obtain ⟨ad, rfl, hc0⟩ := hr.at_ hpos
    have h0 : ((n : Int) == 0) = false := beq_eq_false_iff_ne.2 (by omega)
    have hc0 : w.cell? ad = some (.int .u8 x) := by simpa [Addr.add] using hc0
    have Hr := Held.mk hr
    have Hb := Held.mk hb
    clear hr hb
    by_cases h8 : x < 248
    · have hfin : Held (num (x :: xs) = (x.toNat, 1, .ok)) := ⟨by rw [num_cons, if_pos h8]⟩
      go_enter Tryd.func55, Tryd.ntmps55
      go_wp2
      go_ret3
      rw [hfin.out]
      refine ⟨?_, rfl⟩
      have : x = ((x.toNat : Nat) : Int) := by omega
      simp only [numR, Er.code]
      rw [← this]; rfl
    · obtain ⟨m, rfl⟩ : ∃ m : Nat, x = 247 + m := ⟨(x - 247).toNat, by omega⟩
      have hnum := num_cons (247 + (m : Int)) xs
      rw [if_neg h8, show ((247 + (m : Int) - 247).toNat) = m from by omega] at hnum
      have Hnum := Held.mk hnum
      have hm1 : 1 ≤ m := by omega
      have hm8 : m ≤ 8 := by omega
      have hmI : (1 : Int) ≤ (m : Int) ∧ (m : Int) ≤ 8 := ⟨by omega, by omega⟩
      have he : (247 + (m : Int)) - 247 = (m : Int) := by omega
      clear hnum
      by_cases hs : n ≤ m
      · have hfin : Held (num ((247 + (m : Int)) :: xs) = (0, 0, .no 2)) := ⟨by rw [Hnum.out, if_pos (by have := hlen.out; simp at this; omega)]⟩
        have hs' : (n : Int) < 1 + (m : Int) := by omega
        go_enter Tryd.func55, Tryd.ntmps55
        go_wp2
        go_ret3
        rw [hfin.out]
        exact ⟨rfl, rfl⟩
      · have hs' : ¬ (n : Int) < 1 + (m : Int) := by omega
        have hns : ¬ xs.length < m := by have := hlen.out; simp at this; omega
        rw [if_neg hns] at Hnum
        have HL : Held (m ≤ xs.length) := ⟨by omega⟩
        have HB := Held.mk Hb.out.tail
        have HC : Held (∀ p, p < m → w.cell? (ad.add (p + 1)) = some (.int .u8 (xs.getD p 0))) := ⟨fun p hp => by
          obtain ⟨ad', h1, h2⟩ := Hr.out.at_ (show p + 1 < n by omega)
          injection h1 with h1
          subst h1
          simpa using h2⟩
        clear hns
        go_enter Tryd.func55, Tryd.ntmps55
        go_wp2_with fail
        go_loopw [6, 7] (fun X i wr => ∃ p : Nat, p ≤ m ∧ i = .int .i64 ((p : Int) + 1) ∧ X = .int .u64 (low (xs.take p)) ∧ wr = w) (fun _ i _ => m + 1 - (intOf i).toNat)
        case atStart => exact ⟨0, Nat.zero_le _, rfl, rfl, rfl⟩
        case round =>
          obtain ⟨p, hp, rfl, rfl, rfl⟩ := hrel
          by_cases hlt : p < m
          · have hcp : wr.cell? ⟨ad.block, ad.off + (p + 1), none⟩ = some (.int .u8 (xs.getD p 0)) := by
              have := HC.out p hlt
              simpa [Addr.add] using this
            have hcb := HB.out.getD p
            have hX : low (xs.take p) < 72057594037927936 := by
              have h1 := low_lt _ (HB.out.take p)
              have h2 : (xs.take p).length = p := by rw [List.length_take]; have := HL.out; omega
              have h3 : 256 ^ p ≤ 256 ^ 7 := Nat.pow_le_pow_right (by omega) (by omega)
              rw [h2] at h1
              have e : (256 : Nat) ^ 7 = 72057594037927936 := by decide
              omega
            have hs2 : xs.take (p + 1) = xs.take p ++ [xs.getD p 0] := by
              rw [List.take_succ_eq_append_getElem (by have := HL.out; omega), List.getD_eq_getElem?_getD, List.getElem?_eq_getElem (by have := HL.out; omega)]; rfl
            have HN : Held (low (xs.take (p + 1)) = low (xs.take p) * 256 + (xs.getD p 0).toNat) := ⟨by rw [hs2, low_snoc]⟩
            generalize low (xs.take p) = X at *
            generalize xs.getD p 0 = y at *
            have hXI : (X : Int) < 72057594037927936 := by omega
            have hw1 : IntKind.u64.wrap ((X : Int) * 256) = (X : Int) * 256 := by simp [IntKind.wrap, IntKind.signed, IntKind.bits]; omega
            have hw2 : IntKind.u64.wrap ((X : Int) * 256 + y) = (X : Int) * 256 + y := by simp [IntKind.wrap, IntKind.signed, IntKind.bits]; omega
            have hpI : (p : Int) + 1 ≤ (m : Int) := by omega
            have HX := Held.mk hX
            have HY := Held.mk hcb
            obtain ⟨hy0, hy1⟩ := hcb
            clear hX hs2 hXI
            go_wp2
            go_roundw
            case rel => exact ⟨p + 1, by omega, by go_num, by rw [HN.out]; go_num, by first | rfl | trivial⟩
            case measure => simp [intOf]; omega
          · obtain rfl : p = m := by omega
            have hB := HB.out.take p
            have h2 : (xs.take p).length = p := by rw [List.length_take]; have := HL.out; omega
            have hlw := low_lt _ hB
            rw [h2] at hlw
            have hU : U64 (low (xs.take p)) := by
              have h3 : 256 ^ p ≤ 256 ^ 8 := Nat.pow_le_pow_right (by omega) hm8
              have e : (256 : Nat) ^ 8 = 18446744073709551616 := by decide
              unfold U64; omega
            have HSb := Held.mk (size_bits _ p hlw hm1 hm8)
            have HRs := Held.mk (fun w h => rsize_any (low (xs.take p)) w hU h)
            generalize low (xs.take p) = X at *
            clear hlw hU hB h2
            by_cases hX8 : X < 248
            · rw [if_pos (.inl hX8)] at Hnum
              have hXI : (X : Int) < 248 := by omega
              go_wp2
              go_ret3
              rw [Hnum.out]
              exact ⟨rfl, rfl⟩
            · have hXI : ¬ (X : Int) < 248 := by omega
              have HRq := Held.mk (fun w => HRs.out w (by omega))
              by_cases hbl : Lib.bitLen X ≤ 8 * (p - 1)
              · rw [if_pos (.inr hbl)] at Hnum
                have hne := HSb.out.1 hbl
                generalize size X = z at *
                have hneI : ¬ (z : Int) = (p : Int) := by omega
                clear hbl hne
                go_wp2_with (go_at_call 71; refine (HRq.out _).mono ?_; rintro e w' ⟨rfl, rfl⟩)
                go_ret3
                rw [Hnum.out]
                exact ⟨rfl, rfl⟩
              · have hz : size X = p := by
                  rcases Decidable.em (size X = p) with h | h
                  · exact h
                  · exact absurd (HSb.out.2 h) hbl
                rw [if_neg (by omega)] at Hnum
                rw [hz] at HRq
                clear hbl hz HSb HRs
                go_wp2_with (go_at_call 71; refine (HRq.out _).mono ?_; rintro e w' ⟨rfl, rfl⟩)
                go_ret3
                rw [Hnum.out]
                refine ⟨?_, rfl⟩
                simp only [numR, Er.code]
                have : 1 + (p : Int) = ((p + 1 : Nat) : Int) := by omega
                rw [← this]
                rfl
end Wire
end Go.Proofs.YthkhemcbkcoliaaDoor
