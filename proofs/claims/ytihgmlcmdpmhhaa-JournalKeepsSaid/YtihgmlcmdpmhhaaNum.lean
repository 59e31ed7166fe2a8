import Derived.Test.YtihgmlcmdpmhhaaPut
import Derived.Laws.BitsLemmas
namespace Go.Proofs.Ytihgmlcmdpmhhaa
set_option linter.unusedVariables false
namespace Wire
open Go.RowKit Mem

theorem or8 (x : Nat) (y : Int) (hx : x < 72057594037927936) (h0 : 0 ≤ y) (h1 : y ≤ 255) : bits .or .u64 (IntKind.u64.wrap ((x : Int) * 256)) y = ((x * 256 + y.toNat : Nat) : Int) := by
  rw [IntKind.wrap_u64, Int.emod_eq_of_lt (by omega) (by omega), u64_or _ _ (by omega) (by omega) h0 (by omega)]
  congr 1
  have e : ((x : Int) * 256).toNat = 2 ^ 8 * x := by omega
  rw [e, ← Nat.two_pow_add_eq_or_of_lt (show y.toNat < 2 ^ 8 by omega)]
  omega
set_option maxHeartbeats 1000000 in
set_option maxRecDepth 100000 in
theorem low_any (ok : Nat → Prop) (A : Option Addr) (n c : Nat) (xs : List Int) (w : World) (hr : RdN w ok .u8 A n xs) (hn : n ≤ 8) (hb : Byt xs) :
    Calls Try.prog 40 #[.slice A n c] w fun e w' => e = .returned (.int .u64 (low xs)) ∧ w = w' := by
  have hlen := Held.mk hr.len
  have Hb := Held.mk hb
  clear hb
  go_enter Try.func40, Try.ntmps40
  go_wp2
  go_loop [3, 8] (fun x i => ∃ k : Nat, k ≤ n ∧ i = .int .i64 k ∧ x = .int .u64 (low (xs.take k))) (fun _ i => n - (intOf i).toNat)
  case atStart => exact ⟨0, Nat.zero_le _, rfl, rfl⟩
  case round =>
    obtain ⟨k, hk, rfl, rfl⟩ := hrel
    by_cases hlt : k < n
    · obtain ⟨ad, rfl, hc⟩ := hr.at_ hlt
      have hcb := Hb.out.getD k
      generalize hx : low (xs.take k) = x at *
      generalize hy : xs.getD k 0 = y at *
      have Hx := Held.mk hx
      have Hy := Held.mk hy
      clear hx hy
      go_wp2
      go_round
      case rel =>
        refine ⟨k + 1, by omega, by go_num, ?_⟩
        have hx56 : x < 72057594037927936 := by
          have h1 := low_lt _ (Hb.out.take k)
          rw [Hx.out] at h1
          have h2 : (xs.take k).length = k := by rw [List.length_take, hlen.out]; omega
          have h3 : 256 ^ k ≤ 256 ^ 7 := Nat.pow_le_pow_right (by omega) (by omega)
          rw [h2] at h1
          have e : (256 : Nat) ^ 7 = 72057594037927936 := by decide
          omega
        have hs : xs.take (k + 1) = xs.take k ++ [y] := by
          rw [List.take_succ_eq_append_getElem (by rw [hlen.out]; exact hlt), ← Hy.out, List.getD_eq_getElem?_getD, List.getElem?_eq_getElem (by rw [hlen.out]; exact hlt)]; rfl
        rw [hs, low_snoc, Hx.out, or8 x y hx56 hcb.1 hcb.2]
      case measure => simp [intOf]; omega
    · go_wp2
      go_ret
      have : xs.take k = xs := List.take_of_length_le (by rw [hlen.out]; omega)
      rw [this]
      exact ⟨rfl, rfl⟩

def Er.enc : Er → Value
  | .ok => .nilIface
  | .no n => .iface 60 (.int .i64 n)
  | .ref s n => .iface 62 (.agg #[.string s, .int .i64 n])
def numV (r : Nat × Nat × Er) : Value := .tuple #[.int .u64 r.1, .int .i64 r.2.1, r.2.2.enc]
set_option maxHeartbeats 1000000 in
set_option maxRecDepth 100000 in
theorem number_wide (ok : Nat → Prop) (A : Option Addr) (n c : Nat) (xs : List Int) (w : World) (hr : RdN w ok .u8 A n xs) (hc : n ≤ c) (hl : n ≤ 281474976710656) (hb : Byt xs) :
    Calls Try.prog 39 #[.slice A n c] w fun e w' => e = .returned (numV (num xs)) ∧ w = w' := by
  have hlen := Held.mk hr.len
  cases xs with
  | nil =>
    obtain rfl : n = 0 := by simpa using hlen.out.symm
    go_enter Try.func39, Try.ntmps39
    go_wp2
    go_ret3
    exact ⟨rfl, rfl⟩
  | cons x xs =>
    have hx := hb.head
    have hpos : 0 < n := by have := hlen.out; simp at this; omega
    obtain ⟨ad, rfl, hc0⟩ := hr.at_ hpos
    have h0 : ((n : Int) == 0) = false := beq_eq_false_iff_ne.2 (by omega)
    have hc0 : w.cell? ad = some (.int .u8 x) := by simpa [Addr.add] using hc0
    have Hr := Held.mk hr
    have Hb := Held.mk hb
    clear hr hb
    by_cases h8 : x < 248
    · have hfin : Held (num (x :: xs) = (x.toNat, 1, .ok)) := ⟨by rw [num_cons, if_pos h8]⟩
      go_enter Try.func39, Try.ntmps39
      go_wp2
      go_ret3
      rw [hfin.out]
      refine ⟨?_, rfl⟩
      have : x = ((x.toNat : Nat) : Int) := by omega
      simp only [numV, Er.enc]
      rw [← this]; rfl
    · obtain ⟨m, hm⟩ : ∃ m : Nat, x = 247 + m := ⟨(x - 247).toNat, by omega⟩
      have hnum := num_cons x xs
      rw [if_neg h8, show ((x - 247).toNat) = m from by omega] at hnum
      have Hnum := Held.mk hnum
      clear hnum
      by_cases hs : n ≤ m
      · have hfin : Held (num (x :: xs) = (0, 0, .no 2)) := ⟨by rw [Hnum.out, if_pos (by have := hlen.out; simp at this; omega)]⟩
        have hs' : (n : Int) ≤ x - 248 + 1 := by omega
        clear hm
        go_enter Try.func39, Try.ntmps39
        go_wp2
        go_ret3
        rw [hfin.out]
        exact ⟨rfl, rfl⟩
      · have hsub := Hr.out.sub (lo := 1) (up := 1 + m) (by omega) (by omega)
        have hB : Byt (xs.take m) := Hb.out.tail.take m
        rw [show 1 + m - 1 = m from by omega, show (((x : Int) :: xs).take (1 + m)).drop 1 = xs.take m from by rw [Nat.add_comm, List.take_succ_cons]; rfl] at hsub
        have hU : U64 (low (xs.take m)) := by
          have h1 := low_lt _ hB
          have h2 : (xs.take m).length ≤ 8 := by rw [List.length_take]; omega
          have h3 : 256 ^ (xs.take m).length ≤ 256 ^ 8 := Nat.pow_le_pow_right (by omega) h2
          have e : (256 : Nat) ^ 8 = 18446744073709551616 := by decide
          unfold U64; omega
        have hns : ¬ xs.length < m := by have := hlen.out; simp at this; omega
        rw [if_neg hns] at Hnum
        generalize hX : low (xs.take m) = X at *
        have HX := Held.mk hX
        have HS := Held.mk (show RdN w ok .u8 (some ⟨ad.block, ad.off + 1, none⟩) m (xs.take m) from hsub)
        have hs' : x - 248 + 1 < (n : Int) := by omega
        have HM := Held.mk hm
        have hm8 : m ≤ 8 := by omega
        have HB := Held.mk hB
        clear hX hsub hns hs hm hB
        have hcall : Held ((1 + (x - 248 + 1)).toNat - 1 = m) := ⟨by have := HM.out; omega⟩
        have hbU := bitLen_le X hU
        by_cases hX8 : X < 248
        · rw [if_pos (.inl hX8)] at Hnum
          go_enter Try.func39, Try.ntmps39
          go_wp2_with fail
          rw [hcall.out]
          refine (low_any ok _ m _ _ w HS.out hm8 HB.out).mono ?_
          rintro e w' ⟨rfl, rfl⟩
          rw [HX.out]
          go_wp2
          go_ret3
          rw [Hnum.out]
          exact ⟨rfl, rfl⟩
        · by_cases hbl : Lib.bitLen X ≤ 8 * (m - 1)
          · rw [if_pos (.inr hbl)] at Hnum
            have hb' : (Lib.bitLen X : Int) ≤ 8 * (x - 248 + 1 - 1) := by have := HM.out; omega
            clear hbl
            go_enter Try.func39, Try.ntmps39
            go_wp2_with fail
            rw [hcall.out]
            refine (low_any ok _ m _ _ w HS.out hm8 HB.out).mono ?_
            rintro e w' ⟨rfl, rfl⟩
            rw [HX.out]
            go_wp2_with (go_at_call 38; refine (len64 X _ hU).mono ?_; rintro e w' ⟨rfl, rfl⟩)
            go_ret3
            rw [Hnum.out]
            exact ⟨rfl, rfl⟩
          · rw [if_neg (by omega)] at Hnum
            have hb' : 8 * (x - 248 + 1 - 1) < (Lib.bitLen X : Int) := by have := HM.out; omega
            clear hbl
            go_enter Try.func39, Try.ntmps39
            go_wp2_with fail
            rw [hcall.out]
            refine (low_any ok _ m _ _ w HS.out hm8 HB.out).mono ?_
            rintro e w' ⟨rfl, rfl⟩
            rw [HX.out]
            go_wp2_with (go_at_call 38; refine (len64 X _ hU).mono ?_; rintro e w' ⟨rfl, rfl⟩)
            go_ret3
            rw [Hnum.out]
            refine ⟨?_, rfl⟩
            simp only [numV, Er.enc]
            have : x - 248 + 1 + 1 = ((m + 1 : Nat) : Int) := by have := HM.out; omega
            rw [← this]
            rfl
theorem number_any (ok : Nat → Prop) (A : Option Addr) (n c : Nat) (xs : List Int) (w : World) (hr : RdN w ok .u8 A n xs) (hc : n ≤ c) (hl : n ≤ 140737488355328) (hb : Byt xs) :
    Calls Try.prog 39 #[.slice A n c] w fun e w' => e = .returned (numV (num xs)) ∧ w = w' := number_wide ok A n c xs w hr hc (by omega) hb
end Wire
end Go.Proofs.Ytihgmlcmdpmhhaa
