import Derived.Test.YtihgmlcmdpmhhaaMem
import Derived.Test.YtihgmlcmdpmhhaaForm
import Derived.Test.YtihgmlcmdpmhhaaProg
import Derived.Test.YtihgmlcmdpmhhaaShelf
import Derived.Outline
namespace Go.Proofs.Ytihgmlcmdpmhhaa
set_option linter.unusedVariables false
namespace Wire
open Go.RowKit Mem

theorem info_u8 : (Try.prog.info? 5).map (fun i => (i.zero, i.size, i.bytes)) = some (some (.int .u8 0), 1, 1) := by kernel_rfl

theorem shiftval (x p : Nat) : (x : Int) / 2 ^ (8 * (p + 1) - 8) % 256 = (((x / 256 ^ p) % 256 : Nat) : Int) := by
  rw [show 8 * (p + 1) - 8 = 8 * p from by omega, show (2 : Int) ^ (8 * p) = ((256 ^ p : Nat) : Int) from by rw [Int.pow_mul, Int.natCast_pow]; rfl, Int.natCast_emod, Int.natCast_ediv]
  rfl

set_option maxHeartbeats 1000000 in
set_option maxRecDepth 100000 in
theorem high_any (base : Nat) (v : Value) (xs : List Int) (x n : Nat) (w : World) (hx : U64 x) (hn : n ≤ 8) (hl : xs.length ≤ 225179981368320)
    (ho : OwnN w base 5 .u8 v xs) (hb : base ≤ w.heap.size) :
    Calls Try.prog 27 #[v, .int .u64 x, .int .i64 n] w fun e w' => ∃ v', e = .returned v' ∧ OwnN w' base 5 .u8 v' (xs ++ hi x n) ∧ w.grownBy w' v.ownBlock ∧ (v'.ownBlock = v.ownBlock ∨ ∃ b, v'.ownBlock = some b ∧ w.heap.size ≤ b) := by
  go_enter Try.func27, Try.ntmps27
  go_wp2
  have Ho := Held.mk ho
  clear ho
  go_loopw [0, 2] (fun c i wr => ∃ (m : Nat) (ys : List Int), m ≤ n ∧ i = .int .i64 m ∧ ys.length + m = xs.length + n ∧ OwnN wr base 5 .u8 c ys ∧ Held (ys ++ hi x m = xs ++ hi x n) ∧ w.grownBy wr v.ownBlock ∧ Held (c.ownBlock = v.ownBlock ∨ ∃ b, c.ownBlock = some b ∧ w.heap.size ≤ b)) (fun _ i _ => (intOf i).toNat)
  case atStart => exact ⟨n, xs, Nat.le_refl _, rfl, rfl, Ho.out, ⟨rfl⟩, World.grownBy.refl _ _, ⟨.inl rfl⟩⟩
  case round =>
    obtain ⟨m, ys, hm, rfl, hlen, hown, he, hg, hat⟩ := hrel
    by_cases h0 : 0 < m
    · go_wp2_with (at_builtin; go_loud (refine app1N base rfl (.tmp 11) (.tmp 18) 23 5 .u8 1 rfl Try.underlying23 info_u8 (by decide) u0 ys _ rfl rfl hown ?c1 ?c2 ?_); (case c1 => (have := hg.size; omega)); (case c2 => omega); intro v1 w1 ho1 hg1 hat1)
      go_roundw
      case rel =>
        obtain ⟨p, rfl⟩ : ∃ p, m = p + 1 := ⟨m - 1, by omega⟩
        refine ⟨p, _, by omega, by go_num, ?_, ho1, ⟨?_⟩, grownBy.next hg hat.out hg1, ⟨grownBy.at_ hg.size hat.out hat1⟩⟩
        · simp; omega
        · rw [shiftval, List.append_assoc]; exact he.out
      case measure => simp [intOf]; omega
    · go_wp2
      go_ret
      obtain rfl : m = 0 := by omega
      refine ⟨_, rfl, ?_, hg, hat.out⟩
      have := he.out
      simp only [hi, List.append_nil] at this
      rw [← this]; exact hown

theorem wf_u64 {a : Int} (h : (Lit.int .u64 a).wf = true) : 0 ≤ a ∧ U64 a.toNat := by
  simp [Lit.wf, IntKind.min, IntKind.max, IntKind.signed, IntKind.bits] at h
  unfold U64; omega
theorem len64 (x : Nat) (w : World) (hx : U64 x) : Calls Try.prog 38 #[.int .u64 x] w fun e w' => e = .returned (.int .i64 (Lib.bitLen x)) ∧ w' = w := by
  unfold U64 at hx
  have := Try.bits_Len64 x w (by omega) (by omega)
  simpa using this
set_option maxHeartbeats 1000000 in
set_option maxRecDepth 100000 in
theorem put_any (base : Nat) (v : Value) (xs : List Int) (x : Nat) (w : World) (hx : U64 x) (hl : xs.length ≤ 225179981368310)
    (ho : OwnN w base 5 .u8 v xs) (hb : base ≤ w.heap.size) :
    Calls Try.prog 24 #[v, .int .u64 x] w fun e w' => ∃ v', e = .returned v' ∧ OwnN w' base 5 .u8 v' (xs ++ form x) ∧ w.grownBy w' v.ownBlock ∧ (v'.ownBlock = v.ownBlock ∨ ∃ b, v'.ownBlock = some b ∧ w.heap.size ≤ b) := by
  by_cases h : x < 248
  · go_enter Try.func24, Try.ntmps24
    go_wp2_with (at_builtin; go_loud (refine app1N base rfl (.tmp 8) (.tmp 11) 23 5 .u8 1 rfl Try.underlying23 info_u8 (by decide) v xs _ rfl rfl ho ?c1 ?c2 ?_); (case c1 => omega); (case c2 => omega); intro v1 w1 ho1 hg1 hat1)
    go_ret
    exact ⟨_, rfl, by rw [form, if_pos h]; exact ho1, hg1, hat1⟩
  · have hs := size_le x hx
    have hbl := bitLen_le x hx
    go_enter Try.func24, Try.ntmps24
    go_wp2_with fail
    refine (len64 x _ hx).mono ?_
    rintro e w' ⟨rfl, rfl⟩
    go_wp2_with (at_builtin; go_loud (refine app1N base rfl (.tmp 17) (.tmp 21) 23 5 .u8 1 rfl Try.underlying23 info_u8 (by decide) v xs _ rfl rfl ho ?c1 ?c2 ?_); (case c1 => omega); (case c2 => omega); intro v1 w1 ho1 hg1 hat1)
    rw [show ((Lib.bitLen x : Int) + 7) / 8 = ((size x : Nat) : Int) from by unfold size; omega]
    have hw := hg1.size
    refine (high_any base v1 _ x (size x) w1 hx hs (by simp; omega) ho1 (by omega)).mono ?_
    rintro e w2 ⟨v2, rfl, ho2, hg2, hat2⟩
    have HO := Held.mk ho2
    have HG := Held.mk (grownBy.next hg1 hat1 hg2)
    have HA := Held.mk (grownBy.at_ hw hat1 hat2)
    clear ho2 hg2 hat2 hg1 hat1 ho1 hw
    go_wp2
    go_ret
    refine ⟨_, rfl, ?_, HG.out, HA.out⟩
    have e1 : xs ++ form x = xs ++ [247 + ((Lib.bitLen x : Int) + 7) / 8] ++ hi x (size x) := by
      rw [form, if_neg h, List.append_assoc]
      have : ((247 + size x : Nat) : Int) = 247 + ((Lib.bitLen x : Int) + 7) / 8 := by unfold size; omega
      rw [this]; rfl
    rw [e1]; exact HO.out
end Wire
end Go.Proofs.Ytihgmlcmdpmhhaa
