/- The document's reader: what is left: walked. -/
import Derived.Test.YthkhemcbkcoliaaDoorRrf
import Derived.Deep.QuietTactic
import Derived.BigQuiet
namespace Go.Proofs.YthkhemcbkcoliaaDoor
set_option linter.unusedVariables false
set_option linter.unusedSimpArgs false
namespace Wire
open Go.RowKit Mem Apn
set_option maxHeartbeats 1000000 in
set_option maxRecDepth 100000 in
theorem rleftR_0 (ok : Nat → Prop) (W : Nat) (A : Option Addr) (n c : Nat) (b : List Int) (p : Nat) (s : RS) (y0 y1 y2 : Value) (w : World) (hB : Blk w W 41 #[.slice A n c, .int .i64 p, .int .i64 s.er.code, y0, y1, y2]) (h : One w ok A n c b p s) :
    Calls Tryd.prog 22 #[.pointer (some ⟨W, 0, none⟩)] w fun e w' => e = .returned (.int .i64 s.xs.length) ∧ ∃ m, w' = w.drewN m := by
  have k0 := hB.cell 0
  have k1 := hB.cell 1
  have k2 := hB.cell 2
  simp at k0 k1 k2
  have HX : Held (s.xs.length = n - p) := ⟨by rw [h.xs, List.length_drop, h.rd.len]⟩
  have HP := Held.mk h.pos
  have hpI : (p : Int) ≤ (n : Int) := by have := h.pos; omega
  have hlI : (n : Int) ≤ 140737488355328 := by have := h.len; omega
  have hwl : IntKind.i64.wrap ((n : Int) - (p : Int)) = (n : Int) - (p : Int) := IntWalk.i64_in _ ⟨by omega, by omega⟩
  clear h hB
  go_enter Tryd.func22, Tryd.ntmps22
  go_wp2_with fail
  go_quiet (fail)
  go_wp2
  go_ret
  refine ⟨?_, by first | exact ⟨_, rfl⟩ | exact ⟨0, rfl⟩⟩
  rw [HX.out]
  have : ((n - p : Nat) : Int) = (n : Int) - (p : Int) := by have := HP.out; omega
  rw [this]
  rfl
set_option maxHeartbeats 1000000 in
set_option maxRecDepth 100000 in
theorem rendR_0 (ok : Nat → Prop) (W : Nat) (A : Option Addr) (n c : Nat) (b : List Int) (p : Nat) (s : RS) (y0 y1 y2 : Value) (w : World) (hB : Blk w W 41 #[.slice A n c, .int .i64 p, .int .i64 s.er.code, y0, y1, y2]) (h : One w ok A n c b p s) :
    Calls Tryd.prog 26 #[.pointer (some ⟨W, 0, none⟩)] w fun e w' => e = .returned (.int .i64 (endM s).code) ∧ ∃ m, w' = w.drewN m := by
  have k0 := hB.cell 0
  have k1 := hB.cell 1
  have k2 := hB.cell 2
  simp at k0 k1 k2
  have HL := Held.mk (rleftR_0 ok W A n c b p s y0 y1 y2 w hB h)
  have HB := Held.mk hB
  rcases fit_code h.fit with ⟨he, hc⟩ | ⟨hne, hc1, hc2⟩
  · rw [hc] at k2
    by_cases hx : s.xs.length = 0
    · have HE : Held ((endM s).code = 0) := ⟨by unfold endM; rw [he]; simp [hx, Er.code]⟩
      have HC := Held.mk hc
      rw [hx] at HL
      clear h hB he hc
      go_enter Tryd.func26, Tryd.ntmps26
      go_wp2_with fail
      refine HL.out.mono ?_
      rintro e w1 ⟨rfl, m, rfl⟩
      have k2'' := (HB.out.drewN m).cell 2
      simp [HC.out] at k2''
      go_wp2
      go_ret
      exact ⟨by rw [HE.out]; rfl, _, rfl⟩
    · have HE : Held ((endM s).code = 3) := ⟨by unfold endM; rw [he]; simp [hx, Er.code]⟩
      have hlp : (0 : Int) < (s.xs.length : Int) := by omega
      clear h hB he hc
      go_enter Tryd.func26, Tryd.ntmps26
      go_wp2_with fail
      refine HL.out.mono ?_
      rintro e w1 ⟨rfl, m, rfl⟩
      go_wp2
      go_ret
      exact ⟨by rw [HE.out]; rfl, _, rfl⟩
  · have HE : Held (endM s = s.er) := ⟨by unfold endM; split <;> first | (rename_i he; exact absurd he hne) | rfl⟩
    have hcn : ¬ s.er.code = 0 := by omega
    rw [HE.out]
    generalize s.er.code = z at *
    clear h hB hne HL HE
    go_enter Tryd.func26, Tryd.ntmps26
    go_wp2
    go_ret
    exact ⟨rfl, 0, rfl⟩
set_option maxHeartbeats 1000000 in
set_option maxRecDepth 100000 in
theorem rleftR_3 (ok : Nat → Prop) (W : Nat) (A : Option Addr) (n c : Nat) (b : List Int) (p : Nat) (s : RS) (y0 y1 y2 : Value) (w : World) (hB : Blk w W 41 #[y0, y1, y2, .slice A n c, .int .i64 p, .int .i64 s.er.code]) (h : One w ok A n c b p s) :
    Calls Tryd.prog 22 #[.pointer (some ⟨W, 3, none⟩)] w fun e w' => e = .returned (.int .i64 s.xs.length) ∧ ∃ m, w' = w.drewN m := by
  have k0 := hB.cell 3
  have k1 := hB.cell 4
  have k2 := hB.cell 5
  simp at k0 k1 k2
  have HX : Held (s.xs.length = n - p) := ⟨by rw [h.xs, List.length_drop, h.rd.len]⟩
  have HP := Held.mk h.pos
  have hpI : (p : Int) ≤ (n : Int) := by have := h.pos; omega
  have hlI : (n : Int) ≤ 140737488355328 := by have := h.len; omega
  have hwl : IntKind.i64.wrap ((n : Int) - (p : Int)) = (n : Int) - (p : Int) := IntWalk.i64_in _ ⟨by omega, by omega⟩
  clear h hB
  go_enter Tryd.func22, Tryd.ntmps22
  go_wp2_with fail
  go_quiet (fail)
  go_wp2
  go_ret
  refine ⟨?_, by first | exact ⟨_, rfl⟩ | exact ⟨0, rfl⟩⟩
  rw [HX.out]
  have : ((n - p : Nat) : Int) = (n : Int) - (p : Int) := by have := HP.out; omega
  rw [this]
  rfl
set_option maxHeartbeats 1000000 in
set_option maxRecDepth 100000 in
theorem rendR_3 (ok : Nat → Prop) (W : Nat) (A : Option Addr) (n c : Nat) (b : List Int) (p : Nat) (s : RS) (y0 y1 y2 : Value) (w : World) (hB : Blk w W 41 #[y0, y1, y2, .slice A n c, .int .i64 p, .int .i64 s.er.code]) (h : One w ok A n c b p s) :
    Calls Tryd.prog 26 #[.pointer (some ⟨W, 3, none⟩)] w fun e w' => e = .returned (.int .i64 (endM s).code) ∧ ∃ m, w' = w.drewN m := by
  have k0 := hB.cell 3
  have k1 := hB.cell 4
  have k2 := hB.cell 5
  simp at k0 k1 k2
  have HL := Held.mk (rleftR_3 ok W A n c b p s y0 y1 y2 w hB h)
  have HB := Held.mk hB
  rcases fit_code h.fit with ⟨he, hc⟩ | ⟨hne, hc1, hc2⟩
  · rw [hc] at k2
    by_cases hx : s.xs.length = 0
    · have HE : Held ((endM s).code = 0) := ⟨by unfold endM; rw [he]; simp [hx, Er.code]⟩
      have HC := Held.mk hc
      rw [hx] at HL
      clear h hB he hc
      go_enter Tryd.func26, Tryd.ntmps26
      go_wp2_with fail
      refine HL.out.mono ?_
      rintro e w1 ⟨rfl, m, rfl⟩
      have k2'' := (HB.out.drewN m).cell 5
      simp [HC.out] at k2''
      go_wp2
      go_ret
      exact ⟨by rw [HE.out]; rfl, _, rfl⟩
    · have HE : Held ((endM s).code = 3) := ⟨by unfold endM; rw [he]; simp [hx, Er.code]⟩
      have hlp : (0 : Int) < (s.xs.length : Int) := by omega
      clear h hB he hc
      go_enter Tryd.func26, Tryd.ntmps26
      go_wp2_with fail
      refine HL.out.mono ?_
      rintro e w1 ⟨rfl, m, rfl⟩
      go_wp2
      go_ret
      exact ⟨by rw [HE.out]; rfl, _, rfl⟩
  · have HE : Held (endM s = s.er) := ⟨by unfold endM; split <;> first | (rename_i he; exact absurd he hne) | rfl⟩
    have hcn : ¬ s.er.code = 0 := by omega
    rw [HE.out]
    generalize s.er.code = z at *
    clear h hB hne HL HE
    go_enter Tryd.func26, Tryd.ntmps26
    go_wp2
    go_ret
    exact ⟨rfl, 0, rfl⟩
end Wire
end Go.Proofs.YthkhemcbkcoliaaDoor
