import Derived.Test.YthkhemcbkcoliaaDoorWorks
import Derived.Test.YthkhemcbkcoliaaDoorOpen
namespace Go.Proofs.YthkhemcbkcoliaaDoor
set_option linter.unusedVariables false
namespace Wire
open Go.RowKit Mem

/-- One call of a row of calls. -/
structure Put where
  on : Int
  kind : Int
  x : Nat
  s : ByteArray
def Put.cells (p : Put) : List Value := [.int .i64 p.on, .int .i64 p.kind, .int .u64 p.x, .string p.s]
structure Put.Good (p : Put) : Prop where
  on : I64 p.on
  kind : I64 p.kind
  x : U64 p.x
  s : p.s.size ≤ 140737488351232
/-- int64(x). -/
def toI (x : Nat) : Int := wrap64 x
theorem toI_I64 (x : Nat) : I64 (toI x) := by unfold I64 toI wrap64; omega
theorem size_U64 {s : ByteArray} (h : s.size ≤ 9223372036854775807) : U64 s.size := by unfold U64; omega
def laid (p : Put) : List Int := if p.kind = 0 then form p.x else if p.kind = 1 then form (zig (toI p.x)) else if p.kind = 2 then form p.s.size ++ bts p.s else []

set_option maxHeartbeats 1000000 in
set_option maxRecDepth 100000 in
theorem wtext_any (base B : Nat) (v : Value) (xs : List Int) (s : ByteArray) (w : World) (hs : s.size ≤ 9223372036854775807) (hl : xs.length + s.size ≤ 225179981368310) (hw : Wr w base B v xs) :
    Calls Tryd.prog 57 #[.pointer (some ⟨B, 0, none⟩), .string s] w fun e w' => e = .returned (.tuple #[]) ∧ ∃ v', Wr w' base B v' (xs ++ (form s.size ++ bts s)) ∧ Keep (fun k => k = B ∨ v.ownBlock = some k) w w' ∧ (v'.ownBlock = v.ownBlock ∨ ∃ b, v'.ownBlock = some b ∧ w.heap.size ≤ b) := by
  have hc := hw.blk.cell 0
  simp at hc
  have hb : base ≤ w.heap.size := by have := hw.blk.lt; have := hw.ge; omega
  have HW := Held.mk hw
  have hU := size_U64 hs
  clear hw
  go_enter Tryd.func57, Tryd.ntmps57
  go_wp2_with fail
  refine (put_any base v xs s.size _ hU (by omega) HW.out.own hb).mono ?_
  rintro e w1 ⟨v1, rfl, ho1, hg1, hat1⟩
  have hfl := form_length s.size hU
  have hs1 := hg1.size
  have Ho := Held.mk ho1
  have Hat := Held.mk hat1
  have Hg := Held.mk hg1
  clear hc ho1 hat1 hg1
  have hll : (xs ++ form s.size).length + s.size ≤ 225179981368328 := by rw [List.length_append]; omega
  have Hll := Held.mk hll
  clear hll
  go_wp2_with (at_builtin; refine appStr _ base rfl (.tmp 12) (.tmp 13) 23 9 5 rfl Tryd.underlying23 Tryd.underlying9 info_u8 v1 _ rfl Ho.out s rfl ?c1 ?c2 ?_; (case c1 => have := Hll.out; omega); (case c2 => omega); intro v2 w2 ho2 hg2 hat2; obtain ⟨A, n1, c, rfl, _⟩ := ho2.slice; have hB2 : Blk w2 B 118 #[v] := HW.out.blk.keep (Keep.of_grown (grownBy.next Hg.out Hat.out hg2)) HW.out.ne; have hc1 := hB2.cell 0; simp at hc1; have hf1 := hB2.frozen 0; have Ho2 := Held.mk ho2; have Hat2 := Held.mk (grownBy.at_ hs1 Hat.out hat2); have Hg2 := Held.mk (grownBy.next Hg.out Hat.out hg2); clear ho2 hg2 hat2)
  go_end0
  have hne : ∀ k, (Value.slice A n1 c).ownBlock = some k → k ≠ B := fun k hk e => own_blk_ne Ho2.out hB2 (by decide) (hk.trans (by rw [e]))
  refine ⟨rfl, _, ⟨hB2.set_ 0 _, HW.out.ge, ?_⟩, ?_, Hat2.out⟩
  · rw [← List.append_assoc]
    exact ((Keep.refl (fun k => k = B) w2).setCell (fun _ => rfl) _).own Ho2.out hne
  · exact ((Keep.of_grown Hg2.out).mono (fun _ _ h => .inr h)).setCell (fun _ => .inl rfl) _

set_option maxHeartbeats 1000000 in
set_option maxRecDepth 100000 in
theorem lay_any (base B : Nat) (v : Value) (xs : List Int) (p : Put) (w : World) (hp : p.Good) (hl : xs.length + p.s.size ≤ 225179981368310) (hw : Wr w base B v xs) :
    Calls Tryd.prog 73 #[.pointer (some ⟨B, 0, none⟩), .agg #[.int .i64 p.on, .int .i64 p.kind, .int .u64 p.x, .string p.s]] w fun e w' => e = .returned (.tuple #[]) ∧ ∃ v', Wr w' base B v' (xs ++ laid p) ∧ Keep (fun k => k = B ∨ v.ownBlock = some k) w w' ∧ (v'.ownBlock = v.ownBlock ∨ ∃ b, v'.ownBlock = some b ∧ w.heap.size ≤ b) := by
  have HA : Held (∀ o, Wr (w.alloc o) base B v xs ∧ Keep (fun k => k = B ∨ v.ownBlock = some k) w (w.alloc o)) := ⟨fun o => ⟨hw.keep ((Keep.refl (fun _ => False) w).alloc o) (fun h => h) (fun _ _ h => h), (Keep.refl _ w).alloc o⟩⟩
  have HP := Held.mk hp
  obtain ⟨on, kind, x, s⟩ := p
  unfold laid
  simp only at hl ⊢
  clear hw hp
  by_cases h0 : kind = 0
  · subst h0
    rw [if_pos rfl]
    go_enter Tryd.func73, Tryd.ntmps73
    go_wp2_with fail
    refine (wuint_any base B v xs x _ HP.out.x (by omega) (HA.out _).1).mono ?_
    rintro e w2 ⟨rfl, v2, hw2, hk2, hat2⟩
    have H2 := Held.mk hw2
    have K2 := Held.mk hk2
    have A2 : Held (v2.ownBlock = v.ownBlock ∨ ∃ b, v2.ownBlock = some b ∧ w.heap.size ≤ b) := ⟨hat2.imp id fun ⟨b, h, hb⟩ => ⟨b, h, by simp at hb; omega⟩⟩
    clear hw2 hk2 hat2
    go_wp2
    go_end0
    exact ⟨rfl, _, H2.out, (HA.out _).2.trans K2.out, A2.out⟩
  · rw [if_neg h0]
    have b0 : (kind == 0) = false := beq_eq_false_iff_ne.2 h0
    by_cases h1 : kind = 1
    · subst h1
      rw [if_pos rfl]
      clear h0 b0
      go_enter Tryd.func73, Tryd.ntmps73
      go_wp2_with fail
      rw [show wrap64 (x : Int) = toI x from rfl]
      refine (wint_any base B v xs (toI x) _ (toI_I64 x) (by omega) (HA.out _).1).mono ?_
      rintro e w2 ⟨rfl, v2, hw2, hk2, hat2⟩
      have H2 := Held.mk hw2
      have K2 := Held.mk hk2
      have A2 : Held (v2.ownBlock = v.ownBlock ∨ ∃ b, v2.ownBlock = some b ∧ w.heap.size ≤ b) := ⟨hat2.imp id fun ⟨b, h, hb⟩ => ⟨b, h, by simp at hb; omega⟩⟩
      clear hw2 hk2 hat2
      go_wp2
      go_end0
      exact ⟨rfl, _, H2.out, (HA.out _).2.trans K2.out, A2.out⟩
    · rw [if_neg h1]
      have b1 : (kind == 1) = false := beq_eq_false_iff_ne.2 h1
      by_cases h2 : kind = 2
      · subst h2
        rw [if_pos rfl]
        clear h0 b0 h1 b1
        go_enter Tryd.func73, Tryd.ntmps73
        go_wp2_with fail
        refine (wtext_any base B v xs s _ (Nat.le_trans HP.out.s (by omega)) (by omega) (HA.out _).1).mono ?_
        rintro e w2 ⟨rfl, v2, hw2, hk2, hat2⟩
        have H2 := Held.mk hw2
        have K2 := Held.mk hk2
        have A2 : Held (v2.ownBlock = v.ownBlock ∨ ∃ b, v2.ownBlock = some b ∧ w.heap.size ≤ b) := ⟨hat2.imp id fun ⟨b, h, hb⟩ => ⟨b, h, by simp at hb; omega⟩⟩
        clear hw2 hk2 hat2
        go_wp2
        go_end0
        exact ⟨rfl, _, H2.out, (HA.out _).2.trans K2.out, A2.out⟩
      · rw [if_neg h2]
        have b2 : (kind == 2) = false := beq_eq_false_iff_ne.2 h2
        clear h0 h1 h2
        go_enter Tryd.func73, Tryd.ntmps73
        go_wp2
        go_end0
        exact ⟨rfl, v, by rw [List.append_nil]; exact (HA.out _).1, (HA.out _).2, .inl rfl⟩
end Wire
end Go.Proofs.YthkhemcbkcoliaaDoor
