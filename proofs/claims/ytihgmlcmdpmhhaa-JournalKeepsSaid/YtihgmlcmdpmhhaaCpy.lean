/- CopyBytes: walked. -/
import Derived.Test.YtihgmlcmdpmhhaaPut
namespace Go.Proofs.Ytihgmlcmdpmhhaa
set_option linter.unusedVariables false
set_option linter.unusedSimpArgs false
namespace Wire
open Go.RowKit Mem
set_option maxHeartbeats 1000000 in
set_option maxRecDepth 100000 in
theorem copy_any (ok : Nat → Prop) (A : Option Addr) (n c : Nat) (xs : List Int) (w : World) (hr : RdN w ok .u8 A n xs) (hl : n ≤ 140737488355300) :
    Calls Try.prog 35 #[.slice A n c] w fun e w' => ∃ v, e = .returned v ∧ OwnN w' w.heap.size 5 .u8 v xs ∧ Below w.heap.size w w' := by
  have h1 := Held.mk hr.len
  have Hr := Held.mk (hr.lt (by decide))
  clear hr
  go_enter Try.func35, Try.ntmps35
  go_wp2
  go_loopw [3, 4] (fun v i wr => ∃ k : Nat, i = .int .i64 k ∧ k ≤ n ∧ OwnN wr w.heap.size 5 .u8 v (xs.take k) ∧ Below w.heap.size w wr) (fun _ i _ => n - (intOf i).toNat)
  case atStart => exact ⟨0, rfl, Nat.zero_le _, own_nil _ _ _ _, Below.refl _ _⟩
  case round =>
    obtain ⟨k, rfl, hk, hown, hb⟩ := hrel
    by_cases hlt : k < n
    · have hr' := Hr.out.keep (Keep.of_below hb (fun k => ¬ k < w.heap.size)) (fun k hk => by simp; exact hk.2)
      obtain ⟨ad, rfl, hc⟩ := RdN.at_ hr' hlt
      have ex : xs.take (k + 1) = xs.take k ++ [xs.getD k 0] := by
        rw [List.take_succ_eq_append_getElem (by rw [h1.out]; exact hlt), List.getD_eq_getElem?_getD, List.getElem?_eq_getElem (by rw [h1.out]; exact hlt)]; rfl
      have hlk : (xs.take k).length ≤ k := List.length_take_le _ _
      generalize xs.take k = ys at *
      generalize xs.getD k 0 = a at *
      have Ex := Held.mk ex
      have Hs := Held.mk hb.size
      have HO := Held.mk hown
      clear ex hr' hown
      go_wp2_with (at_builtin; refine app1N w.heap.size rfl (.tmp 11) (.tmp 16) 23 5 .u8 1 rfl Try.underlying23 info_u8 (by decide) u3 ys _ rfl rfl HO.out ?c1 ?c2 ?_; (case c1 => exact Hs.out); (case c2 => omega); intro v1 w1 ho1 hg1 hat1)
      go_roundw
      case rel => exact ⟨k + 1, by go_num, by omega, by rw [Ex.out]; exact ho1, hb.grown hg1 hb.size (own_ge HO.out)⟩
      case measure => simp [intOf]; omega
    · have ek : xs.take k = xs := List.take_of_length_le (by rw [h1.out]; omega)
      rw [ek] at hown
      have HO := Held.mk hown
      have HB := Held.mk hb
      clear ek hown hb
      go_wp2
      go_ret
      exact ⟨_, rfl, HO.out, HB.out⟩
end Wire
end Go.Proofs.Ytihgmlcmdpmhhaa
