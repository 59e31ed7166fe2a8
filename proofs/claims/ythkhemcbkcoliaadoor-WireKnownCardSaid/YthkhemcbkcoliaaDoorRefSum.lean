import Derived.Test.YthkhemcbkcoliaaDoorSum
namespace Go.Proofs.YthkhemcbkcoliaaDoor
set_option linter.unusedVariables false
namespace Wire
open Go.RowKit Mem
theorem and1 (s : Nat) (h : s < 4294967296) : bits .and .u32 (s : Int) 1 = ((s % 2 : Nat) : Int) := by
  have := u32_and_nat s 1 h (by omega)
  rw [show ((1 : Nat) : Int) = 1 from rfl] at this
  rw [this]
  congr 1
  exact Nat.and_two_pow_sub_one_eq_mod s 1
theorem shrbit (b m : Nat) (h : b < 4294967296) : bits .and .u32 ((b : Int) / 2 ^ m % 4294967296) 1 = ((b / 2 ^ m % 2 : Nat) : Int) := by
  have hlt := Nat.lt_of_le_of_lt (Nat.div_le_self b (2 ^ m)) h
  have := and1 (b / 2 ^ m) hlt
  have e : ((b : Int) / 2 ^ m) = ((b / 2 ^ m : Nat) : Int) := by rw [Int.natCast_ediv, Int.natCast_pow]; rfl
  rw [e]
  generalize b / 2 ^ m = q at *
  rw [Int.emod_eq_of_lt (by omega) (by omega)]
  exact this
set_option maxHeartbeats 2000000 in
set_option maxRecDepth 100000 in
theorem refSum_any (ok : Nat → Prop) (A : Option Addr) (n c : Nat) (xs : List Int) (w : World) (hr : RdN w ok .u8 A n xs) (hl : n ≤ 140737488355328) (hb : Byt xs) :
    Calls Tryd.prog 53 #[.slice A n c] w fun e w' => e = .returned (.int .u32 (crc xs)) ∧ w = w' := by
  have h1 := Held.mk hr.len
  have Hr := Held.mk hr
  have Hb := Held.mk hb
  clear hr hb
  go_enter Tryd.func53, Tryd.ntmps53
  go_wp2
  go_loop [3, 4] (fun s i => ∃ k : Nat, i = .int .i64 k ∧ k ≤ n ∧ s = .int .u32 (sumT (nats (xs.take k)))) (fun _ i => n - (intOf i).toNat)
  case atStart => exact ⟨0, rfl, Nat.zero_le _, rfl⟩
  case round =>
    obtain ⟨k, rfl, hk, rfl⟩ := hrel
    by_cases hlt : k < n
    · obtain ⟨ad, rfl, hc⟩ := Hr.out.at_ hlt
      have hcb := Hb.out.getD k
      generalize hy : xs.getD k 0 = y at *
      have Hy := Held.mk hy
      clear hy
      obtain ⟨b, rfl⟩ := Int.eq_ofNat_of_zero_le hcb.1
      have hs : xs.take (k + 1) = xs.take k ++ [(b : Int)] := by
        rw [List.take_succ_eq_append_getElem (by rw [h1.out]; exact hlt), ← Hy.out, List.getD_eq_getElem?_getD, List.getElem?_eq_getElem (by rw [h1.out]; exact hlt)]; rfl
      have hsl := sumT_byt _ (Hb.out.take k)
      have Hn : Held (sumT (nats (xs.take (k + 1))) = bitsB (sumT (nats (xs.take k))) b 8) := ⟨by rw [hs, nats_snoc, sumT_snoc, sumB_eq _ _ (by omega)]⟩
      clear hs
      generalize sumT (nats (xs.take k)) = s at *
      go_wp2
      go_loop [3, 5] (fun s' j => ∃ m : Nat, j = .int .i64 m ∧ m ≤ 8 ∧ s' = .int .u32 (bitsB s b m : Nat)) (fun _ j => 8 - (intOf j).toNat)
      case atStart => exact ⟨0, rfl, by omega, rfl⟩
      case round =>
        obtain ⟨m, rfl, hm, rfl⟩ := hrel
        have hml := bitsB_lt s b m hsl
        by_cases hm8 : m < 8
        · have ha := and1 (bitsB s b m) hml
          have hb1 := shrbit b m (by omega)
          have hnx : Held (bitsB s b (m + 1) = bitB (bitsB s b m) b m) := ⟨rfl⟩
          have hx := u32_xor_nat (bitsB s b m / 2) 2197175160 (by omega) (by omega)
          rw [show (((bitsB s b m / 2 : Nat)) : Int) = ((bitsB s b m : Nat) : Int) / 2 from by omega] at hx
          unfold bitB poly at hnx
          generalize bitsB s b m = t at *
          generalize hu : t % 2 = u at *
          generalize hv : b / 2 ^ m % 2 = v at *
          clear hu hv
          by_cases he : u = v
          · rw [if_pos he, Nat.xor_zero] at hnx
            have hne : ((u : Int) != v) = false := by simp [he]
            clear he
            go_wp2
            go_round
            case rel => exact ⟨m + 1, by go_num, by omega, by rw [hnx.out, Int.natCast_ediv]; rfl⟩
            case measure => simp [intOf]; omega
          · rw [if_neg he] at hnx
            have hne : ((u : Int) != v) = true := by rw [bne_iff_ne]; omega
            clear he
            go_wp2
            go_round
            case rel => exact ⟨m + 1, by go_num, by omega, by rw [hnx.out]; exact congrArg (Value.int .u32) hx⟩
            case measure => simp [intOf]; omega
        · obtain rfl : m = 8 := by omega
          go_wp2
          go_round
          case rel => exact ⟨k + 1, by go_num, by omega, by rw [Hn.out]⟩
          case measure => simp [intOf]; omega
    · have ek : xs.take k = xs := List.take_of_length_le (by rw [h1.out]; omega)
      have hsl := sumT_byt _ (Hb.out.take k)
      rw [ek] at hsl ⊢
      clear ek
      have hfin := Held.mk (show bits .xor .u32 ((sumT (nats xs) : Nat) : Int) 4294967295 = (crc xs : Nat) from u32_xor_nat (sumT (nats xs)) 4294967295 hsl (by omega))
      go_wp2
      go_ret
      rw [← hfin.out]
      exact ⟨rfl, rfl⟩
end Wire
end Go.Proofs.YthkhemcbkcoliaaDoor
