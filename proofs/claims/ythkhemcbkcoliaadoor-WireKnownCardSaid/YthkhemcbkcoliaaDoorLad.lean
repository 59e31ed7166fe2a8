/- The document's PutInt, laid: walked. -/
import Derived.Test.YthkhemcbkcoliaaDoorLay
import Derived.Test.YthkhemcbkcoliaaDoorRsz
namespace Go.Proofs.YthkhemcbkcoliaaDoor
set_option linter.unusedVariables false
set_option linter.unusedSimpArgs false
namespace Wire
open Go.RowKit Mem
set_option maxHeartbeats 1000000 in
set_option maxRecDepth 100000 in
theorem rfold_any (x : Int) (w : World) (hx : I64 x) : Calls Tryd.prog 81 #[.int .i64 x] w fun e w' => e = .returned (.int .u64 (zig x : Nat)) ∧ w = w' := by
  unfold I64 at hx
  obtain ⟨h1, h2⟩ := hx
  by_cases h : 0 ≤ x
  · have HZ : Held ((zig x : Int) = 2 * x) := ⟨by unfold zig; rw [if_pos h]; omega⟩
    go_enter Tryd.func81, Tryd.ntmps81
    go_wp2
    go_ret
    exact ⟨by rw [HZ.out]; first | rfl | (congr 2; omega), rfl⟩
  · have HZ : Held ((zig x : Int) = 2 * (-(x + 1)) + 1) := ⟨by unfold zig; rw [if_neg h]; omega⟩
    go_enter Tryd.func81, Tryd.ntmps81
    go_wp2
    go_ret
    exact ⟨by rw [HZ.out]; first | rfl | (congr 2; omega), rfl⟩
set_option maxHeartbeats 1000000 in
set_option maxRecDepth 100000 in
theorem rputint_any (base : Nat) (v : Value) (xs : List Int) (x : Int) (w : World) (hx : I64 x) (hl : xs.length ≤ 225179981368310) (ho : OwnN w base 5 .u8 v xs) (hb : base ≤ w.heap.size) :
    Calls Tryd.prog 79 #[v, .int .i64 x] w fun e w' => ∃ v', e = .returned v' ∧ OwnN w' base 5 .u8 v' (xs ++ form (zig x)) ∧ w.grownBy w' v.ownBlock ∧ (v'.ownBlock = v.ownBlock ∨ ∃ b, v'.ownBlock = some b ∧ w.heap.size ≤ b) := by
  have HP := Held.mk (rput_any base v xs (zig x) w (zig_U64 hx) hl ho hb)
  have HF := Held.mk (rfold_any x w hx)
  clear ho
  go_enter Tryd.func79, Tryd.ntmps79
  go_wp2_with fail
  refine HF.out.mono ?_
  rintro e w1 ⟨rfl, rfl⟩
  go_wp2_with fail
  refine HP.out.mono ?_
  rintro e w2 ⟨v', rfl, ho2, hg2, hat2⟩
  have H2 := Held.mk (And.intro ho2 (And.intro hg2 hat2))
  clear ho2 hg2 hat2
  go_wp2_with fail
  go_ret
  exact ⟨v', rfl, H2.out.1, H2.out.2.1, H2.out.2.2⟩
set_option maxHeartbeats 1000000 in
set_option maxRecDepth 100000 in
theorem laid_any (base : Nat) (v : Value) (xs : List Int) (p : Put) (w : World) (hp : p.Good) (hk : p.kind ≠ 2) (hl : xs.length ≤ 225179981368310) (ho : OwnN w base 5 .u8 v xs) (hb : base ≤ w.heap.size) :
    Calls Tryd.prog 74 #[v, .agg #[.int .i64 p.on, .int .i64 p.kind, .int .u64 p.x, .string p.s]] w fun e w' => ∃ v', e = .returned v' ∧ OwnN w' base 5 .u8 v' (xs ++ laid p) ∧ Keep (fun k => v.ownBlock = some k) w w' ∧ (v'.ownBlock = v.ownBlock ∨ ∃ b, v'.ownBlock = some b ∧ w.heap.size ≤ b) := by
  have HO : Held (∀ o, OwnN (w.alloc o) base 5 .u8 v xs ∧ base ≤ (w.alloc o).heap.size) := ⟨fun o => ⟨World.ownsRow.alloc ho o, by simp; omega⟩⟩
  have HK : Held (∀ o, Keep (fun k => v.ownBlock = some k) w (w.alloc o)) := ⟨fun o => (Keep.refl _ w).alloc o⟩
  have HP := Held.mk hp
  obtain ⟨on, kind, x, s⟩ := p
  unfold laid
  simp only at hk ⊢
  clear ho hp hb
  by_cases h0 : kind = 0
  · subst h0
    rw [if_pos rfl]
    go_enter Tryd.func74, Tryd.ntmps74
    go_wp2_with fail
    refine (rput_any base v xs x _ HP.out.x hl (HO.out _).1 (HO.out _).2).mono ?_
    rintro e w2 ⟨v2, rfl, ho2, hg2, hat2⟩
    have H2 := Held.mk ho2
    have K2 := Held.mk (Keep.of_grown hg2)
    have A2 : Held (v2.ownBlock = v.ownBlock ∨ ∃ b, v2.ownBlock = some b ∧ w.heap.size ≤ b) := ⟨hat2.imp id fun ⟨b, h, hb⟩ => ⟨b, h, by simp at hb; omega⟩⟩
    clear ho2 hg2 hat2
    go_wp2_with fail
    go_ret
    exact ⟨v2, rfl, H2.out, (HK.out _).trans K2.out, A2.out⟩
  · rw [if_neg h0]
    have b0 : (kind == 0) = false := beq_eq_false_iff_ne.2 h0
    by_cases h1 : kind = 1
    · subst h1
      rw [if_pos rfl]
      clear h0 b0 hk
      go_enter Tryd.func74, Tryd.ntmps74
      go_wp2_with fail
      rw [show wrap64 (x : Int) = toI x from rfl]
      refine (rputint_any base v xs (toI x) _ (toI_I64 x) hl (HO.out _).1 (HO.out _).2).mono ?_
      rintro e w2 ⟨v2, rfl, ho2, hg2, hat2⟩
      have H2 := Held.mk ho2
      have K2 := Held.mk (Keep.of_grown hg2)
      have A2 : Held (v2.ownBlock = v.ownBlock ∨ ∃ b, v2.ownBlock = some b ∧ w.heap.size ≤ b) := ⟨hat2.imp id fun ⟨b, h, hb⟩ => ⟨b, h, by simp at hb; omega⟩⟩
      clear ho2 hg2 hat2
      go_wp2_with fail
      go_ret
      exact ⟨v2, rfl, H2.out, (HK.out _).trans K2.out, A2.out⟩
    · rw [if_neg h1, if_neg hk]
      have b1 : (kind == 1) = false := beq_eq_false_iff_ne.2 h1
      have b2 : (kind == 2) = false := beq_eq_false_iff_ne.2 hk
      clear h0 h1 hk
      go_enter Tryd.func74, Tryd.ntmps74
      go_wp2_with fail
      go_ret
      exact ⟨v, rfl, by rw [List.append_nil]; exact (HO.out _).1, HK.out _, .inl rfl⟩
/-- A slice of puts that is read. -/
def RdPut (w : World) (ok : Nat → Prop) (A : Option Addr) (ps : List Put) : Prop := RdV w ok 4 A ps.length (ps.flatMap Put.cells)
theorem Put.cells_len (p : Put) : p.cells.length = 4 := rfl
theorem RdPut.at_ {w : World} {ok : Nat → Prop} {A : Option Addr} {ps : List Put} (h : RdPut w ok A ps) {k : Nat} (hk : k < ps.length) : ∃ ad, A = some ad ∧ ok ad.block ∧
    w.cell? (ad.add (k * 4)) = some (.int .i64 ps[k].on) ∧ w.cell? ⟨(ad.add (k * 4)).block, (ad.add (k * 4)).off + 1, none⟩ = some (.int .i64 ps[k].kind) ∧ w.cell? ⟨(ad.add (k * 4)).block, (ad.add (k * 4)).off + 2, none⟩ = some (.int .u64 (ps[k].x : Nat)) ∧ w.cell? ⟨(ad.add (k * 4)).block, (ad.add (k * 4)).off + 3, none⟩ = some (.string ps[k].s) := by
  obtain ⟨ad, e, hb, hc⟩ := h.2 (by omega)
  refine ⟨ad, e, hb, ?_, ?_, ?_, ?_⟩
  · exact hc _ _ (by rw [← Nat.add_zero (k * 4), Law.flat_get Put.cells 4 Put.cells_len ps k 0 hk (by omega)]; rfl)
  · have := hc (k * 4 + 1) _ (by rw [Law.flat_get Put.cells 4 Put.cells_len ps k 1 hk (by omega)]; rfl)
    rw [← add_of_add] at this
    exact this
  · have := hc (k * 4 + 2) _ (by rw [Law.flat_get Put.cells 4 Put.cells_len ps k 2 hk (by omega)]; rfl)
    rw [← add_of_add] at this
    exact this
  · have := hc (k * 4 + 3) _ (by rw [Law.flat_get Put.cells 4 Put.cells_len ps k 3 hk (by omega)]; rfl)
    rw [← add_of_add] at this
    exact this
set_option maxHeartbeats 1000000 in
set_option maxRecDepth 100000 in
theorem vast_no (A : Option Addr) (n c : Nat) (ps : List Put) (ok : Nat → Prop) (w : World) (hn : n = ps.length) (hb : n ≤ 1000000) (hr : RdPut w ok A ps) (hs : ∀ p ∈ ps, p.s.size = 0) :
    Calls Tryd.prog 72 #[.slice A n c] w fun e w' => e = .returned (.bool false) ∧ w' = w := by
  have HR := Held.mk hr
  have HN := Held.mk hn
  have HS := Held.mk hs
  clear hr hn hs
  go_enter Tryd.func72, Tryd.ntmps72
  go_wp2_with fail
  go_loopw [3, 4] (fun z i wr => ∃ k : Nat, z = .int .i64 0 ∧ i = .int .i64 k ∧ k ≤ n ∧ wr = w) (fun _ i _ => n - (intOf i).toNat)
  case atStart => exact ⟨0, rfl, rfl, Nat.zero_le _, rfl⟩
  case round =>
    obtain ⟨k, rfl, rfl, hk, rfl⟩ := hrel
    by_cases hlt : k < n
    · have hkp : k < ps.length := by have := HN.out; omega
      obtain ⟨ad, rfl, _, c0, c1, c2, c3⟩ := HR.out.at_ hkp
      have hz := HS.out ps[k] (List.getElem_mem hkp)
      generalize ps[k].s = st at *
      go_wp2_with fail
      go_roundw
      case rel => exact ⟨k + 1, by simp [hz], by go_num, by omega, trivial⟩
      case measure => simp [intOf]; omega
    · obtain rfl : k = n := by omega
      go_wp2_with fail
      go_ret
      exact ⟨rfl, rfl⟩
end Wire
end Go.Proofs.YthkhemcbkcoliaaDoor
