import Derived.Test.YthkhemcbkcoliaaDoorPut
namespace Go.Proofs.YthkhemcbkcoliaaDoor
set_option linter.unusedVariables false
namespace Wire
open Go.RowKit Mem

/-- A writer at block B that has written xs. -/
structure Wr (w : World) (base B : Nat) (v : Value) (xs : List Int) : Prop where
  blk : Blk w B 118 #[v]
  ge : base ≤ B
  own : OwnN w base 5 .u8 v xs
theorem Wr.keep {w w' : World} {base B : Nat} {v : Value} {xs : List Int} {S : Nat → Prop} (h : Wr w base B v xs) (hk : Keep S w w') (hB : ¬ S B) (hv : ∀ k, v.ownBlock = some k → ¬ S k) : Wr w' base B v xs :=
  ⟨h.blk.keep hk hB, h.ge, hk.own h.own hv⟩
theorem Wr.ne {w : World} {base B : Nat} {v : Value} {xs : List Int} (h : Wr w base B v xs) : v.ownBlock ≠ some B := own_blk_ne h.own h.blk (by decide)

set_option maxHeartbeats 1000000 in
set_option maxRecDepth 100000 in
theorem newWriter_any (w : World) : Calls Tryd.prog 40 #[] w fun e w' => e = .returned (.pointer (some ⟨w.heap.size, 0, none⟩)) ∧ Wr w' w.heap.size w.heap.size (.slice none 0 0) [] ∧ Below w.heap.size w w' := by
  go_enter Tryd.func40, Tryd.ntmps40
  go_wp2
  go_ret
  exact ⟨rfl, ⟨Blk.new _ _ _, Nat.le_refl _, own_nil _ _ _ _⟩, (Below.refl _ _).alloc (Nat.le_refl _) _⟩

set_option maxHeartbeats 1000000 in
set_option maxRecDepth 100000 in
theorem wuint_any (base B : Nat) (v : Value) (xs : List Int) (x : Nat) (w : World) (hx : U64 x) (hl : xs.length ≤ 225179981368310) (hw : Wr w base B v xs) :
    Calls Tryd.prog 41 #[.pointer (some ⟨B, 0, none⟩), .int .u64 x] w fun e w' => e = .returned (.tuple #[]) ∧ ∃ v', Wr w' base B v' (xs ++ form x) ∧ Keep (fun k => k = B ∨ v.ownBlock = some k) w w' ∧ (v'.ownBlock = v.ownBlock ∨ ∃ b, v'.ownBlock = some b ∧ w.heap.size ≤ b) := by
  have hc := hw.blk.cell 0
  simp at hc
  have hb : base ≤ w.heap.size := by have := hw.blk.lt; have := hw.ge; omega
  have HW := Held.mk hw
  clear hw
  go_enter Tryd.func41, Tryd.ntmps41
  go_wp2_with fail
  refine (put_any base v xs x _ hx hl HW.out.own hb).mono ?_
  rintro e w1 ⟨v1, rfl, ho1, hg1, hat1⟩
  obtain ⟨A, n1, c, rfl, _⟩ := ho1.slice
  have hB1 : Blk w1 B 118 #[v] := HW.out.blk.keep (Keep.of_grown hg1) HW.out.ne
  have hc1 := hB1.cell 0
  simp at hc1
  have hf1 := hB1.frozen 0
  have Ho := Held.mk ho1
  have Hat := Held.mk hat1
  have Hg := Held.mk hg1
  clear hc ho1 hat1 hg1
  go_wp2
  go_end0
  have hne : ∀ k, (Value.slice A n1 c).ownBlock = some k → k ≠ B := fun k hk e => own_blk_ne Ho.out hB1 (by decide) (hk.trans (by rw [e]))
  refine ⟨rfl, _, ⟨hB1.set_ 0 _, HW.out.ge, ?_⟩, ?_, Hat.out⟩
  · exact ((Keep.refl (fun k => k = B) w1).setCell (fun _ => rfl) _).own Ho.out hne
  · exact ((Keep.of_grown Hg.out).mono (fun _ _ h => .inr h)).setCell (fun _ => .inl rfl) _

set_option maxHeartbeats 1000000 in
set_option maxRecDepth 100000 in
theorem clone_any (ok : Nat → Prop) (A : Option Addr) (n c : Nat) (xs : List Int) (w : World) (hr : RdN w ok .u8 A n xs) (hl : n ≤ 225179981368328) (hc : n ≤ c) :
    Calls Tryd.prog 34 #[.slice A n c] w fun e w' => ∃ v', e = .returned v' ∧ OwnN w' w.heap.size 5 .u8 v' xs ∧ Below w.heap.size w w' := by
  have hlen := Held.mk hr.len
  have Hr := Held.mk hr
  clear hr
  cases A with
  | none =>
    have hnil := fun W => Lib.run_eql_slice_nil (P := Tryd.prog) W 23 5 none n c 0 0 Tryd.underlying23
    go_enter Tryd.func34, Tryd.ntmps34
    go_wp2
    go_ret
    have h0 : n = 0 := by
      rcases Nat.eq_zero_or_pos n with h | h
      · exact h
      · obtain ⟨_, h, _⟩ := Hr.out.2 h; cases h
    have : xs = [] := List.eq_nil_of_length_eq_zero (by rw [hlen.out, h0])
    subst this
    exact ⟨_, rfl, own_nil _ _ _ _, Below.refl _ _⟩
  | some ad =>
    have hnil := fun W => Lib.run_eql_slice_nil (P := Tryd.prog) W 23 5 (some ad) n c 0 0 Tryd.underlying23
    go_enter Tryd.func34, Tryd.ntmps34
    go_wp2_with (at_builtin; go_loud (refine appS _ w.heap.size rfl (.tmp 5) (.tmp 6) 23 5 (.int .u8 0) 1 1 rfl Tryd.underlying23 info_u8 rfl (by decide) (by decide) _ 0 [] rfl ?c1 ok (some ad) n c (nums .u8 xs) rfl ?c2 (nums_one _ _) ?c3 ?c4 ?_); (case c1 => exact own_empty w _ _); (case c2 => exact Hr.out.keep ((Keep.refl (fun _ => False) w).alloc _) (fun _ _ h => h)); (case c3 => omega); (case c4 => simp); intro v1 w1 ho1 hg1 hat1)
    go_ret
    refine ⟨_, rfl, ?_, (((Keep.refl (fun _ => False) w).alloc _).grown hg1 (fun k hk e => ?_)).to_below (fun _ _ h => h)⟩
    · have := ho1
      simp only [Nat.zero_add, List.nil_append] at this
      unfold OwnN
      rw [hlen.out]; exact this
    · simp [Value.ownBlock, Act.eval] at e
      omega

set_option maxHeartbeats 1000000 in
set_option maxRecDepth 100000 in
theorem done_any (base B : Nat) (v : Value) (xs : List Int) (w : World) (hl : xs.length ≤ 225179981368328) (hw : Wr w base B v xs) :
    Calls Tryd.prog 42 #[.pointer (some ⟨B, 0, none⟩)] w fun e w' => ∃ v', e = .returned v' ∧ OwnN w' w.heap.size 5 .u8 v' xs ∧ Below w.heap.size w w' := by
  obtain ⟨A, c, rfl, hc, hr⟩ := RdN.of_own hw.own
  have hcell := hw.blk.cell 0
  simp at hcell
  have Hr := Held.mk hr
  clear hr hw
  go_enter Tryd.func42, Tryd.ntmps42
  go_wp2_with fail
  refine (clone_any _ A _ c xs _ Hr.out hl hc).mono ?_
  rintro e w1 ⟨v1, rfl, ho1, hb1⟩
  have Ho := Held.mk ho1
  clear ho1
  go_wp2
  go_ret
  exact ⟨_, rfl, Ho.out, hb1⟩

end Wire
end Go.Proofs.YthkhemcbkcoliaaDoor
