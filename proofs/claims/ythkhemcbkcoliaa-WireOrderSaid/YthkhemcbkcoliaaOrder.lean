/- WireOrder: the forms of two numbers stand in the order of the numbers, and none is another's beginning: for every x and y of type uint64; no condition. -/
import Derived.Test.YthkhemcbkcoliaaWri
import Derived.Test.YthkhemcbkcoliaaRow
import Derived.Test.YthkhemcbkcoliaaRows
import Derived.Deep.QuietTactic
import Derived.BigQuiet
namespace Go.Proofs.Ythkhemcbkcoliaa
set_option linter.unusedVariables false
namespace Wire
open Go.RowKit Mem

/-- Two lists are as one up to d, and there they part or end. -/
theorem own_form {w : World} {v : Value} {base x : Nat} (h : OwnN w base 5 .u8 v (form x)) : ∃ ad c, v = .slice (some ad) (form x).length c ∧ (form x).length ≤ c ∧ RdN w (fun k => v.ownBlock = some k) .u8 (some ad) (form x).length (form x) := by
  obtain ⟨A, c, rfl, hc, hr⟩ := RdN.of_own h
  obtain ⟨ad, rfl, _⟩ := hr.2 (form_pos x)
  exact ⟨ad, c, rfl, hc, hr⟩

theorem bdN {B : Nat} {a w : World} (h : Below B a w) (n : Nat) : Below B a (w.drewN n) := ⟨h.os, h.tape, h.output, h.size, h.block⟩
set_option maxHeartbeats 1000000 in
set_option maxRecDepth 100000 in
theorem order_ne (x y : Nat) (hx : U64 x) (hy : U64 y) (hne : (x : Int) ≠ y) (w : World) :
    Calls Try.prog 3 #[.int .u64 x, .int .u64 y] w fun e w' => e = .returned (.bool true) ∧ Below w.heap.size w w' := by
  obtain ⟨d, h1, h2, h3, h4, h5⟩ := form_part x y hx hy (fun e => hne (by rw [e]))
  have H3 := Held.mk h3
  clear h3
  have hxy : ((x : Int) == y) = false := beq_eq_false_iff_ne.2 hne
  have hb1 := form_length x hx
  have hb2 := form_length y hy
  go_enter Try.func3, Try.ntmps3
  go_wp2_with fail
  refine (form_any x w hx).mono ?_
  rintro e w1 ⟨v1, rfl, ho1, hk1⟩
  have Ho1 := Held.mk ho1
  have Hk1 := Held.mk hk1
  clear ho1 hk1
  go_wp2_with fail
  refine (form_any y w1 hy).mono ?_
  rintro e w2 ⟨v2, rfl, ho2, hk2⟩
  obtain ⟨ad1, c1, rfl, hc1, hr1⟩ := own_form Ho1.out
  obtain ⟨ad2, c2, rfl, hc2, hr2⟩ := own_form ho2
  have hr1' := hr1.keep (Keep.of_below hk2 (fun k => w1.heap.size ≤ k)) (fun k hk => by have := own_lt Ho1.out k hk; omega)
  have Hr1 := Held.mk hr1'
  have Hr2 := Held.mk hr2
  have Hb : Held (Below w.heap.size w w2) := ⟨Hk1.out.trans (hk2.mono Hk1.out.size)⟩
  clear hr1 hr1' hr2 ho2 hk2 Hk1 Ho1
  generalize hA : form x = A at *
  generalize hB : form y = B at *
  clear hA hB
  generalize hn1 : A.length = n1 at *
  generalize hn2 : B.length = n2 at *
  clear hn1 hn2
  have e1 : ((n1 : Int) == 0) = false := beq_eq_false_iff_ne.2 (by omega)
  have e2 : ((n2 : Int) == 0) = false := beq_eq_false_iff_ne.2 (by omega)
  go_wp2
  clear e1 e2
  go_loopw [7] (fun i wr => ∃ k m : Nat, i = .int .i64 k ∧ k ≤ d ∧ wr = w2.drewN m) (fun i _ => d - (intOf i).toNat)
  case atStart => exact ⟨0, 0, rfl, Nat.zero_le _, rfl⟩
  case round =>
    obtain ⟨k, m, rfl, hk, rfl⟩ := hrel
    obtain ⟨a1, ea1, hcell1⟩ := Hr1.out.at_ (show k < n1 by omega)
    obtain ⟨a2, ea2, hcell2⟩ := Hr2.out.at_ (show k < n2 by omega)
    injection ea1 with ea1
    injection ea2 with ea2
    subst ea1 ea2
    have hk1 : (k : Int) < n1 := by omega
    have hk2 : (k : Int) < n2 := by omega
    by_cases hlt : k < d
    · have he : (A.getD k 0 == B.getD k 0) = true := beq_iff_eq.2 (H3.out k hlt)
      generalize A.getD k 0 = a at *
      generalize B.getD k 0 = b at *
      go_wp2
      go_quiet (fail)
      go_wp2
      go_roundw
      case rel => exact ⟨k + 1, _, by go_num, by omega, rfl⟩
      case measure => simp [intOf]; omega
    · obtain rfl : k = d := by omega
      have he : (A.getD k 0 == B.getD k 0) = false := beq_eq_false_iff_ne.2 h4
      have hc : Held ((decide (A.getD k 0 < B.getD k 0) == decide (x < y)) = true) := ⟨by
        rw [beq_iff_eq, decide_eq_decide, h5]⟩
      clear h4 h5
      generalize A.getD k 0 = a at *
      generalize B.getD k 0 = b at *
      go_wp2
      go_quiet (fail)
      go_wp2
      go_quiet (fail)
      go_wp2
      go_ret
      exact ⟨congrArg (fun b => Ending.returned (.bool b)) hc.out, by repeat (first | exact Hb.out | apply bdN)⟩

set_option maxHeartbeats 1000000 in
set_option maxRecDepth 100000 in
theorem order_eq (x : Nat) (hx : U64 x) (w : World) :
    Calls Try.prog 3 #[.int .u64 x, .int .u64 x] w fun e w' => e = .returned (.bool true) ∧ Below w.heap.size w w' := by
  have hb1 := form_length x hx
  have hp := form_pos x
  go_enter Try.func3, Try.ntmps3
  go_wp2_with fail
  refine (form_any x w hx).mono ?_
  rintro e w1 ⟨v1, rfl, ho1, hk1⟩
  have Ho1 := Held.mk ho1
  have Hk1 := Held.mk hk1
  clear ho1 hk1
  go_wp2_with fail
  refine (form_any x w1 hx).mono ?_
  rintro e w2 ⟨v2, rfl, ho2, hk2⟩
  obtain ⟨ad1, c1, rfl, hc1, hr1⟩ := own_form Ho1.out
  obtain ⟨ad2, c2, rfl, hc2, hr2⟩ := own_form ho2
  have hr1' := hr1.keep (Keep.of_below hk2 (fun k => w1.heap.size ≤ k)) (fun k hk => by have := own_lt Ho1.out k hk; omega)
  have Hr1 := Held.mk hr1'
  have Hr2 := Held.mk hr2
  have Hb : Held (Below w.heap.size w w2) := ⟨Hk1.out.trans (hk2.mono Hk1.out.size)⟩
  clear hr1 hr1' hr2 ho2 hk2 Hk1 Ho1
  generalize hA : form x = A at *
  clear hA
  generalize hn1 : A.length = n1 at *
  clear hn1
  have e1 : ((n1 : Int) == 0) = false := beq_eq_false_iff_ne.2 (by omega)
  go_wp2
  clear e1
  go_loopw [7] (fun i wr => ∃ k m : Nat, i = .int .i64 k ∧ k ≤ n1 ∧ wr = w2.drewN m) (fun i _ => n1 - (intOf i).toNat)
  case atStart => exact ⟨0, 0, rfl, Nat.zero_le _, rfl⟩
  case round =>
    obtain ⟨k, m, rfl, hk, rfl⟩ := hrel
    by_cases hlt : k < n1
    · obtain ⟨a1, ea1, hcell1⟩ := Hr1.out.at_ hlt
      obtain ⟨a2, ea2, hcell2⟩ := Hr2.out.at_ hlt
      injection ea1 with ea1
      injection ea2 with ea2
      subst ea1 ea2
      have hk1 : (k : Int) < n1 := by omega
      generalize A.getD k 0 = a at *
      have he : (a == a) = true := beq_self_eq_true a
      go_wp2
      go_quiet (fail)
      go_wp2
      go_roundw
      case rel => exact ⟨k + 1, _, by go_num, by omega, rfl⟩
      case measure => simp [intOf]; omega
    · obtain rfl : k = n1 := by omega
      have hk1 : decide ((k : Int) < k) = false := by simp
      go_wp2
      go_quiet (fail)
      go_wp2
      go_ret
      exact ⟨rfl, by repeat (first | exact Hb.out | apply bdN)⟩
theorem order_any (a0 a1 : Int) (w0 : (Lit.int .u64 a0).wf = true) (w1 : (Lit.int .u64 a1).wf = true) (w : World) :
    Calls Try.prog 3 #[.int .u64 a0, .int .u64 a1] w fun e w' => e = .returned (.bool true) ∧ Below w.heap.size w w' := by
  have b0 := wf_u64 w0
  have b1 := wf_u64 w1
  obtain ⟨x, rfl⟩ := Int.eq_ofNat_of_zero_le b0.1
  obtain ⟨y, rfl⟩ := Int.eq_ofNat_of_zero_le b1.1
  by_cases h : (x : Int) = y
  · obtain rfl : x = y := by omega
    exact order_eq x b0.2 w
  · exact order_ne x y b0.2 b1.2 h w
end Wire

namespace wireOrder
open Go.ChangeShapes Go.WideShapes Go.ChangeAt Go.RowKit
theorem own : ownKnob Try.prog.godebug = none := by kernel_rfl
theorem laid : laidOutB Try.prog = true := by kernel_rfl
set_option maxRecDepth 100000 in
theorem lifted (os : Os) (started : os.Started) (H : Type) (enc : TypeId × Value → H) :
    ReturnsInHanded {} Try.checked os 3 .any (Rows.wireOrderSpec.pre6 enc Try.prog Try.f3 Rows.wireOrderRow.domain false) (Rows.wireOrderSpec.post enc Try.prog Try.f3 false true false false) := by
  refine returnsInHanded_of_change (C := Try.checked) own started (by kernel_rfl) Try.func3
    (ChangeSpec.witness6 (enc := enc) (C := Try.checked) false ⟨#[], #[.int .u64 0, .int .u64 0], []⟩ 8 (by kernel_rfl) (by kernel_rfl) (by kernel_rfl) (by kernel_rfl)) ?_
  intro W base args ds gs before hval0 hW hcnd _
  have hval : ∀ (j : Nat) t v, Try.f3.params[j]? = some t → args[j]? = some v → Value.okWide Try.prog W .any base t v := hval0
  have hW' := hW
  obtain ⟨p, q, hA0, hV, rfl, hfz, hnd⟩ := hW
  have hA : DataW.TrodAll enc Try.prog W 0 (fun _ => true) true Try.f3.params.toList args.toList ds p := hA0
  rw [Try.params3] at hA hval
  obtain ⟨v0, vs0, d0, ds0, p0, q0, hargs, rfl, rfl, h0, r0⟩ := trodAll_cons hA
  obtain ⟨v1, vs1, d1, ds1, p1, q1, rfl, rfl, rfl, h1, r1⟩ := trodAll_cons r0
  obtain ⟨rfl, rfl, rfl⟩ := trodAll_nil r1
  obtain rfl : args = #[v0, v1] := by cases args; simp_all
  obtain ⟨rfl, rfl⟩ := trodVars_none hV
  obtain ⟨a0, rfl, rfl, rfl, w0⟩ := open_int Try.underlying22 (hval 0 22 v0 rfl rfl) h0
  obtain ⟨a1, rfl, rfl, rfl, w1⟩ := open_int Try.underlying22 (hval 1 22 v1 rfl rfl) h1
  clear hA0 hval0
  refine (Wire.order_any a0 a1 w0 w1 W).mono fun e W' ⟨he, hb⟩ => ?_
  subst he
  exact ⟨_, rfl, Law.post_law (tb := 4) hW' hb laid (by decide +kernel) (by intro n g t h; cases h) rfl Try.underlying4 rfl rfl rfl⟩

theorem over : Rows.wireOrderRow.holds Try.pinned (OpenSpec.ofChange Rows.wireOrderSpec) :=
  OpenClaim.holds_of_wide 3 Try.f3 rfl rfl rfl rfl rfl rfl rfl ⟨rfl, rfl, rfl, rfl, rfl⟩ rfl rfl rfl rfl rfl (by kernel_rfl) Try.func3 (by kernel_rfl)
    (of_decide_eq_true (by kernel_rfl)) (by unfold Func.isWrapper; first | (rw [if_pos (by decide +kernel)]; kernel_rfl) | (rw [if_neg (by decide +kernel)]; exact ⟨rfl, rfl⟩))
    (fun os started H enc _ => lifted os started H enc)
theorem proved : Rows.WireOrderSaid := over
#print axioms proved
end wireOrder
end Go.Proofs.Ythkhemcbkcoliaa
