/- partial's Order: New, the search for the greatest part: walked. -/
import Derived.Test.YtpbkmkclagikhaaDoorPar
namespace Go.Proofs.YtpbkmkclagikhaaDoor
set_option linter.unusedVariables false
set_option linter.unusedSimpArgs false
namespace Prt
open Go.RowKit Mem Dvs
theorem below_drewN {B : Nat} {a w : World} (h : Below B a w) (n : Nat) : Below B a (w.drewN n) := ⟨h.os, h.tape, h.output, h.size, h.block⟩
theorem nat_of {x : Int} (h : 0 ≤ x) : ∃ n : Nat, x = (n : Int) := ⟨x.toNat, by omega⟩
/-- The cells of an order. -/
def ordC (q a l m d p : Nat) (v : Value) : Array Value := #[.int .i64 q, .int .i64 a, .int .i64 l, .int .i64 m, .int .i64 d, .int .i64 p, v]
set_option maxHeartbeats 4000000 in
set_option maxRecDepth 100000 in
theorem New_in (q a l m : Nat) (w : World) (hq : 0 < q) (hl : 0 < l) :
    Calls Tryd.prog 19 #[.int .i64 q, .int .i64 a, .int .i64 l, .int .i64 m] w fun e w' => e = .returned (.tuple #[.pointer (some ⟨w.heap.size, 0, none⟩), .nilIface]) ∧ w' = w.alloc (.cells #[.int .i64 q, .int .i64 a, .int .i64 l, .int .i64 m, .int .i64 0, .int .i64 0, .slice none 0 0] 80) := by
  have i1 : decide (min (q : Int) (l : Int) < 1) = false := decide_eq_false_iff_not.2 (by omega)
  have i2 : decide (min (a : Int) (m : Int) < 0) = false := decide_eq_false_iff_not.2 (by omega)
  clear hq hl
  go_enter Tryd.func19, Tryd.ntmps19
  go_wp2
  go_ret2
  exact ⟨rfl, rfl⟩
set_option maxHeartbeats 4000000 in
set_option maxRecDepth 100000 in
theorem New_no (q a l m : Int) (w : World) (h : q < 1 ∨ a < 0 ∨ l < 1 ∨ m < 0) :
    Calls Tryd.prog 19 #[.int .i64 q, .int .i64 a, .int .i64 l, .int .i64 m] w fun e w' => e = .returned (.tuple #[.pointer none, refusedV]) ∧ w' = w := by
  unfold refusedV
  have H := Held.mk h
  clear h
  by_cases c1 : min q l < 1
  · have i1 : decide (min q l < 1) = true := decide_eq_true_iff.2 c1
    clear c1
    go_enter Tryd.func19, Tryd.ntmps19
    go_wp2
    go_ret2
    exact ⟨rfl, rfl⟩
  · have i1 : decide (min q l < 1) = false := decide_eq_false_iff_not.2 c1
    have i2 : decide (min a m < 0) = true := decide_eq_true_iff.2 (by have := H.out; omega)
    clear c1
    go_enter Tryd.func19, Tryd.ntmps19
    go_wp2
    go_ret2
    exact ⟨rfl, rfl⟩
set_option maxHeartbeats 4000000 in
set_option maxRecDepth 100000 in
theorem closure_in (B b1 b2 q a l m d p0 i : Nat) (cash : Int) (v : Value) (w : World) (hb : Blk w B 80 #[.int .i64 q, .int .i64 a, .int .i64 l, .int .i64 m, .int .i64 d, .int .i64 p0, v])
    (h1 : w.cell? ⟨b1, 0, none⟩ = some (.pointer (some ⟨B, 0, none⟩))) (h2 : w.cell? ⟨b2, 0, none⟩ = some (.int .i64 cash))
    (hq : 0 < q) (hqm : q ≤ 9223372036854775807) (ha : a ≤ 9223372036854775807) (hd : d + (i + 1) * l ≤ q) (hi : i < 9223372036854775807) :
    Calls Tryd.prog 54 #[.int .i64 i, .pointer (some ⟨b1, 0, none⟩), .pointer (some ⟨b2, 0, none⟩)] w fun e w' => e = .returned (.bool (decide (cash < (mny q a d ((i + 1) * l) : Int)))) ∧ ∃ n, w' = w.drewN n := by
  have H1 := Held.mk (fun w hb => cost_in B q a l m d p0 ((i + 1) * l) v w hb hq hqm ha hd)
  have k2 := hb.cell 2
  simp at k2
  have hbi : ((i : Int) + 1) * (l : Int) = (((i + 1) * l : Nat) : Int) := by rw [Int.natCast_mul, Int.natCast_add]; rfl
  have hbl : ((i : Int) + 1) * (l : Int) ≤ 9223372036854775807 := by rw [hbi]; omega
  have hb0 : 0 ≤ ((i : Int) + 1) * (l : Int) := by rw [hbi]; omega
  have ii : (i : Int) < 9223372036854775807 := by omega
  have HBI := Held.mk hbi
  have HBK := Held.mk hb
  clear hb hqm ha hd hi hbi
  go_enter Tryd.func54, Tryd.ntmps54
  go_wp2
  go_quiet ((go_at_call 38; rw [HBI.out]; exact Calls.quiet_of (H1.out _ HBK.out)))
  go_wp2
  go_ret
  exact ⟨rfl, _, rfl⟩
set_option maxHeartbeats 4000000 in
set_option maxRecDepth 100000 in
theorem search_in (b1 b2 n : Nat) (c : Nat → Bool) (w : World) (hn : n ≤ 9223372036854775807) (hmono : ∀ i j, i ≤ j → j < n → c i = true → c j = true)
    (hc : ∀ i k, i < n → Calls Tryd.prog 54 #[.int .i64 i, .pointer (some ⟨b1, 0, none⟩), .pointer (some ⟨b2, 0, none⟩)] (w.drewN k) fun e w' => e = .returned (.bool (c i)) ∧ ∃ n, w' = (w.drewN k).drewN n) :
    Calls Tryd.prog 53 #[.int .i64 n, .func (.func 54) #[] #[.pointer (some ⟨b1, 0, none⟩), .pointer (some ⟨b2, 0, none⟩)]] w fun e w' => (∃ r : Nat, e = .returned (.int .i64 r) ∧ r ≤ n ∧ (∀ i, i < r → c i = false) ∧ (r < n → c r = true)) ∧ ∃ n, w' = w.drewN n := by
  have HC := Held.mk hc
  have HM := Held.mk hmono
  have HN := Held.mk hn
  clear hc hmono
  have hn' : (n : Int) ≤ 9223372036854775807 := by omega
  clear hn
  go_enter Tryd.func53, Tryd.ntmps53
  go_wp2
  go_loopw [5, 6] (fun u v wr => ∃ i j k : Nat, u = .int .i64 i ∧ v = .int .i64 j ∧ Held (i ≤ j ∧ j ≤ n ∧ (∀ x, x < i → c x = false) ∧ (∀ x, j ≤ x → x < n → c x = true)) ∧ wr = w.drewN k) (fun u v _ => (intOf v - intOf u).toNat)
  case atStart => exact ⟨0, n, 0, rfl, rfl, ⟨by omega, Nat.le_refl _, by omega, by omega⟩, rfl⟩
  case round =>
    obtain ⟨i, j, k, rfl, rfl, H, rfl⟩ := hrel
    obtain ⟨hij, hjn, hlo, hup⟩ := H.out
    have Hlo := Held.mk hlo
    have Hup := Held.mk hup
    clear hlo hup
    by_cases hlt : i < j
    · have e1 : wrap64 (IntKind.u64.wrap (wrap64 ((i : Int) + (j : Int))) / 2) = (((i + j) / 2 : Nat) : Int) := by
        simp only [wrap64, wrap_u64]
        omega
      have hh : (i + j) / 2 < j := by omega
      have hh2 : i ≤ (i + j) / 2 := by omega
      generalize (i + j) / 2 = h at *
      have HE := Held.mk e1
      clear e1
      go_wp2_with fail
      rw [HE.out]
      refine (HC.out h k (by omega)).mono ?_
      rintro e w1 ⟨rfl, k1, rfl⟩
      cases hch : c h
      · have HH := Held.mk hch
        clear hch
        have HX : Held (∀ x, x < h + 1 → c x = false) := ⟨fun x hx => by
          cases hcx : c x
          · rfl
          · have := HM.out x h (by omega) (by omega) hcx
            rw [HH.out] at this
            cases this⟩
        go_wp2
        go_roundw
        case rel => exact ⟨h + 1, j, _, by go_num, rfl, ⟨by omega, hjn, HX.out, Hup.out⟩, rfl⟩
        case measure => simp [intOf]; omega
      · have HH := Held.mk hch
        clear hch
        have HX : Held (∀ x, h ≤ x → x < n → c x = true) := ⟨fun x hx hxn => HM.out h x hx hxn HH.out⟩
        go_wp2
        go_roundw
        case rel => exact ⟨i, h, _, rfl, rfl, ⟨by omega, by omega, Hlo.out, HX.out⟩, rfl⟩
        case measure => simp [intOf]; omega
    · go_wp2
      go_ret
      obtain rfl : i = j := by omega
      exact ⟨⟨i, rfl, hjn, Hlo.out, fun h => Hup.out i (Nat.le_refl _) h⟩, _, rfl⟩
end Prt
end Go.Proofs.YtpbkmkclagikhaaDoor
