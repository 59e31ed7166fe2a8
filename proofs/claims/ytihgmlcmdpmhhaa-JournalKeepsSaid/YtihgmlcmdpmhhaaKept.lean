import Derived.Test.YtihgmlcmdpmhhaaMem
import Derived.Test.YtihgmlcmdpmhhaaProg
import Derived.Outline
import Derived.Deep.QuietTactic
import Derived.BigQuiet
namespace Go.Proofs.Ytihgmlcmdpmhhaa
set_option linter.unusedVariables false
namespace Kit
open Go.RowKit Mem
theorem info_u8 : (Try.prog.info? 5).map (fun i => (i.zero, i.size, i.bytes)) = some (some (.int .u8 0), 1, 1) := by kernel_rfl
theorem below_drewN {B : Nat} {a w : World} (h : Below B a w) (n : Nat) : Below B a (w.drewN n) := ⟨h.os, h.tape, h.output, h.size, h.block⟩
theorem info_size : (Try.prog.info? 5).map (fun i => i.size) = some 1 := by kernel_rfl

set_option maxHeartbeats 1000000 in
set_option maxRecDepth 100000 in
theorem same_any (ok ok' : Nat → Prop) (A A' : Option Addr) (n n' c c' : Nat) (xs ys : List Int) (w : World) (hr : RdN w ok .u8 A n xs) (hr' : RdN w ok' .u8 A' n' ys) (hl : n ≤ 9223372036854775807) (hl' : n' ≤ 9223372036854775807) :
    Calls Try.prog 14 #[.slice A n c, .slice A' n' c'] w fun e w' => e = .returned (.bool (decide (xs = ys))) ∧ ∃ m, w' = w.drewN m := by
  have h1 := Held.mk hr.len
  have h2 := Held.mk hr'.len
  have Hr := Held.mk hr
  have Hr' := Held.mk hr'
  clear hr hr'
  by_cases hn : n = n'
  · subst hn
    have h0 : ((n : Int) != n) = false := by simp
    go_enter Try.func14, Try.ntmps14
    go_wp2
    go_loopw [5] (fun i wr => ∃ k m : Nat, i = .int .i64 k ∧ k ≤ n ∧ Held (xs.take k = ys.take k) ∧ wr = w.drewN m) (fun i _ => n - (intOf i).toNat)
    case atStart => exact ⟨0, 0, rfl, Nat.zero_le _, ⟨rfl⟩, rfl⟩
    case round =>
      obtain ⟨k, m, rfl, hk, he, rfl⟩ := hrel
      by_cases hlt : k < n
      · obtain ⟨a1, rfl, hc1⟩ := Hr.out.at_ hlt
        obtain ⟨a2, rfl, hc2⟩ := Hr'.out.at_ hlt
        have hk1 : (k : Int) < n := by omega
        have ex : xs.take (k + 1) = xs.take k ++ [xs.getD k 0] := by
          rw [List.take_succ_eq_append_getElem (by rw [h1.out]; exact hlt), List.getD_eq_getElem?_getD, List.getElem?_eq_getElem (by rw [h1.out]; exact hlt)]; rfl
        have ey : ys.take (k + 1) = ys.take k ++ [ys.getD k 0] := by
          rw [List.take_succ_eq_append_getElem (by rw [h2.out]; exact hlt), List.getD_eq_getElem?_getD, List.getElem?_eq_getElem (by rw [h2.out]; exact hlt)]; rfl
        generalize xs.getD k 0 = a at *
        generalize ys.getD k 0 = b at *
        have Ex := Held.mk ex
        have Ey := Held.mk ey
        clear ex ey
        by_cases hab : a = b
        · subst hab
          have hne : (a != a) = false := by simp
          go_wp2
          go_quiet (fail)
          go_wp2
          go_roundw
          case rel => exact ⟨k + 1, _, by go_num, by omega, ⟨by rw [Ex.out, Ey.out, he.out]⟩, rfl⟩
          case measure => simp [intOf]; omega
        · have hne : (a != b) = true := by simpa using hab
          have hfin : Held (decide (xs = ys) = false) := ⟨by
            simp only [decide_eq_false_iff_not]
            intro e
            have := Ex.out.symm.trans ((congrArg (·.take (k + 1)) e).trans Ey.out)
            simp at this
            exact hab this.2⟩
          go_wp2
          go_quiet (fail)
          go_wp2
          go_ret
          rw [hfin.out]
          exact ⟨rfl, _, World.drewN_drewN ..⟩
      · go_wp2
        go_ret
        have : xs = ys := by
          have := he.out
          rwa [List.take_of_length_le (by rw [h1.out]; omega), List.take_of_length_le (by rw [h2.out]; omega)] at this
        rw [this]
        exact ⟨by simp, _, rfl⟩
  · have h0 : ((n : Int) != n') = true := by rw [bne_iff_ne]; omega
    have hfin : Held (decide (xs = ys) = false) := ⟨by
      simp only [decide_eq_false_iff_not]
      intro e
      exact hn (by rw [← h1.out, ← h2.out, e])⟩
    go_enter Try.func14, Try.ntmps14
    go_wp2
    go_ret
    rw [hfin.out]
    exact ⟨rfl, 0, rfl⟩

end Kit
end Go.Proofs.Ytihgmlcmdpmhhaa
