import Derived.Test.YthkhemcbkcoliaaDoorWri
import Derived.Lib.Zigzag
namespace Go.Proofs.YthkhemcbkcoliaaDoor
set_option linter.unusedVariables false
namespace Wire
open Go.RowKit Mem

/-- A string's bytes as numbers. -/
def bts (s : ByteArray) : List Int := s.data.toList.map fun b => (b.toNat : Int)
theorem bts_length (s : ByteArray) : (bts s).length = s.size := by simp [bts]
theorem bts_byt (s : ByteArray) : Byt (bts s) := fun c hc => by
  obtain ⟨b, _, rfl⟩ := List.mem_map.1 hc
  have := b.toNat_lt
  omega
theorem str_bts (s : ByteArray) : strOfNums (bts s) = s := by
  unfold strOfNums bts
  rw [List.map_map]
  have : ((fun n : Int => UInt8.ofNat n.toNat) ∘ fun b : UInt8 => (b.toNat : Int)) = id := by
    funext b; simp
  rw [this, List.map_id]

theorem zig_U64 {x : Int} (h : I64 x) : U64 (zig x) := by
  unfold I64 at h
  unfold U64 zig
  split <;> omega
theorem zig_bits (x : Int) (h : I64 x) : bits .xor .u64 (IntKind.u64.wrap (IntKind.u64.wrap x * 2)) (IntKind.u64.wrap (x / 9223372036854775808)) = (zig x : Nat) := by
  have h' := h
  unfold I64 at h
  unfold zig
  split
  · rename_i h0
    have e1 : IntKind.u64.wrap (IntKind.u64.wrap x * 2) = ((2 * x.toNat : Nat) : Int) := by rw [IntKind.wrap_u64, IntKind.wrap_u64]; omega
    have e2 : IntKind.u64.wrap (x / 9223372036854775808) = ((0 : Nat) : Int) := by rw [IntKind.wrap_u64]; omega
    rw [e1, e2, bits_xor_u64_nat _ _ (by omega) (by omega), Nat.xor_zero]
  · rename_i h0
    have := Lib.zigzag_neg h.1 (by omega : x < 0)
    have e2 : IntKind.u64.wrap (x / 9223372036854775808) = IntKind.u64.max := by
      have : IntKind.u64.max = 18446744073709551615 := by decide
      rw [this, IntKind.wrap_u64]; omega
    rw [e2]
    have e3 : bits .xor .u64 (IntKind.u64.wrap (IntKind.u64.wrap x * 2)) IntKind.u64.max = bits .xor .u64 IntKind.u64.max (IntKind.u64.wrap (IntKind.u64.wrap x * 2)) := by simp only [bits, BitVec.xor_comm]
    rw [e3, this]
    unfold Lib.zigzag
    rw [if_neg (by omega)]
    omega

set_option maxHeartbeats 1000000 in
set_option maxRecDepth 100000 in
theorem wint_any (base B : Nat) (v : Value) (xs : List Int) (x : Int) (w : World) (hx : I64 x) (hl : xs.length ≤ 225179981368310) (hw : Wr w base B v xs) :
    Calls Tryd.prog 56 #[.pointer (some ⟨B, 0, none⟩), .int .i64 x] w fun e w' => e = .returned (.tuple #[]) ∧ ∃ v', Wr w' base B v' (xs ++ form (zig x)) ∧ Keep (fun k => k = B ∨ v.ownBlock = some k) w w' ∧ (v'.ownBlock = v.ownBlock ∨ ∃ b, v'.ownBlock = some b ∧ w.heap.size ≤ b) := by
  have hc := hw.blk.cell 0
  simp at hc
  have hb : base ≤ w.heap.size := by have := hw.blk.lt; have := hw.ge; omega
  have HW := Held.mk hw
  have HZ := Held.mk (zig_bits x hx)
  have hU := zig_U64 hx
  clear hw
  go_enter Tryd.func56, Tryd.ntmps56
  go_wp2_with fail
  rw [HZ.out]
  refine (put_any base v xs (zig x) _ hU hl HW.out.own hb).mono ?_
  rintro e w1 ⟨v1, rfl, ho1, hg1, hat1⟩
  obtain ⟨A, n1, c, rfl, _⟩ := ho1.slice
  have hB1 : Blk w1 B 118 #[v] := HW.out.blk.keep (Keep.of_grown hg1) HW.out.ne
  have hc1 := hB1.cell 0
  simp at hc1
  have hf1 := hB1.frozen 0
  have Ho := Held.mk ho1
  have Hat := Held.mk hat1
  have Hg := Held.mk hg1
  clear hc ho1 hat1 hg1
  go_wp2
  go_end0
  have hne : ∀ k, (Value.slice A n1 c).ownBlock = some k → k ≠ B := fun k hk e => own_blk_ne Ho.out hB1 (by decide) (hk.trans (by rw [e]))
  refine ⟨rfl, _, ⟨hB1.set_ 0 _, HW.out.ge, ?_⟩, ?_, Hat.out⟩
  · exact ((Keep.refl (fun k => k = B) w1).setCell (fun _ => rfl) _).own Ho.out hne
  · exact ((Keep.of_grown Hg.out).mono (fun _ _ h => .inr h)).setCell (fun _ => .inl rfl) _
end Wire
end Go.Proofs.YthkhemcbkcoliaaDoor
