import Derived.Test.YtihgmlcmdpmhhaaPut
namespace Go.Proofs.Ytihgmlcmdpmhhaa
set_option linter.unusedVariables false
set_option linter.unusedSimpArgs false
namespace Wire
open Go.RowKit Mem
set_option maxHeartbeats 1000000 in
set_option maxRecDepth 100000 in
theorem clone_any (ok : Nat → Prop) (A : Option Addr) (n c : Nat) (xs : List Int) (w : World) (hr : RdN w ok .u8 A n xs) (hl : n ≤ 225179981368328) (hc : n ≤ c) :
    Calls Try.prog 26 #[.slice A n c] w fun e w' => ∃ v', e = .returned v' ∧ OwnN w' w.heap.size 5 .u8 v' xs ∧ Below w.heap.size w w' := by
  have hlen := Held.mk hr.len
  have Hr := Held.mk hr
  clear hr
  cases A with
  | none =>
    have hnil := fun W => Lib.run_eql_slice_nil (P := Try.prog) W 23 5 none n c 0 0 Try.underlying23
    go_enter Try.func26, Try.ntmps26
    go_wp2
    go_ret
    have h0 : n = 0 := by
      rcases Nat.eq_zero_or_pos n with h | h
      · exact h
      · obtain ⟨_, h, _⟩ := Hr.out.2 h; cases h
    have : xs = [] := List.eq_nil_of_length_eq_zero (by rw [hlen.out, h0])
    subst this
    exact ⟨_, rfl, own_nil _ _ _ _, Below.refl _ _⟩
  | some ad =>
    have hnil := fun W => Lib.run_eql_slice_nil (P := Try.prog) W 23 5 (some ad) n c 0 0 Try.underlying23
    go_enter Try.func26, Try.ntmps26
    go_wp2_with (at_builtin; go_loud (refine appS _ w.heap.size rfl (.tmp 5) (.tmp 6) 23 5 (.int .u8 0) 1 1 rfl Try.underlying23 info_u8 rfl (by decide) (by decide) _ 0 [] rfl ?c1 ok (some ad) n c (nums .u8 xs) rfl ?c2 (nums_one _ _) ?c3 ?c4 ?_); (case c1 => exact own_empty w _ _); (case c2 => exact Hr.out.keep ((Keep.refl (fun _ => False) w).alloc _) (fun _ _ h => h)); (case c3 => omega); (case c4 => simp); intro v1 w1 ho1 hg1 hat1)
    go_ret
    refine ⟨_, rfl, ?_, (((Keep.refl (fun _ => False) w).alloc _).grown hg1 (fun k hk e => ?_)).to_below (fun _ _ h => h)⟩
    · have := ho1
      simp only [Nat.zero_add, List.nil_append] at this
      unfold OwnN
      rw [hlen.out]; exact this
    · simp [Value.ownBlock, Act.eval] at e
      omega

end Wire
end Go.Proofs.Ytihgmlcmdpmhhaa
