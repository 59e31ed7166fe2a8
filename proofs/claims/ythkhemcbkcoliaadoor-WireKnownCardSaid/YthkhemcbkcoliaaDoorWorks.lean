import Derived.Test.YthkhemcbkcoliaaDoorRdr
import Derived.Test.YthkhemcbkcoliaaDoorTxt
namespace Go.Proofs.YthkhemcbkcoliaaDoor
set_option linter.unusedVariables false
namespace Wire
open Go.RowKit Mem

theorem form300 : (form 300).length = 3 := by decide
theorem u300 : uintM ⟨form 300, .ok⟩ 300 = (300, ⟨[], .ok⟩) := by
  have h := num_form 300 (by unfold U64; omega) []
  rw [List.append_nil] at h
  have h2 : peekM ⟨form 300, .ok⟩ = (300, 3, .ok) := by rw [← form300]; exact h
  unfold uintM
  rw [h2]
  simp only
  rw [if_neg (by omega), List.drop_of_length_le (by rw [form300]; omega)]

set_option maxHeartbeats 1000000 in
set_option maxRecDepth 100000 in
theorem works_any (w : World) : Calls Tryd.prog 14 #[] w fun e w' => e = .returned (.bool true) ∧ Below w.heap.size w w' := by
  go_enter Tryd.func14, Tryd.ntmps14
  go_wp2_with fail
  refine (newWriter_any _).mono ?_
  rintro e w1 ⟨rfl, hw1, hb1⟩
  have Hw1 := Held.mk hw1
  have Hb1 := Held.mk hb1
  clear hw1 hb1
  go_wp2_with fail
  refine (wuint_any _ _ _ _ 300 w1 (by unfold U64; omega) (by simp) Hw1.out).mono ?_
  rintro e w2 ⟨rfl, v2, hw2, hk2, _⟩
  have Hw2 := Held.mk hw2
  have Hb2 : Held (Below w.heap.size w w2) := ⟨((Keep.of_below Hb1.out (fun _ => False)).then hk2 (fun i hi h => by
    rcases h with h | h
    · omega
    · simp [Value.ownBlock] at h)).to_below (fun _ _ h => h)⟩
  clear hw2 hk2 Hb1 Hw1
  go_wp2_with fail
  refine (done_any _ _ _ _ w2 (by rw [List.nil_append, form300]; omega) Hw2.out).mono ?_
  rintro e w3 ⟨v3, rfl, ho3, hb3⟩
  rw [List.nil_append] at ho3
  obtain ⟨A3, c3, rfl, hc3, hr3⟩ := RdN.of_own ho3
  have Hr3 := Held.mk hr3
  have Hb3 : Held (Below w.heap.size w w3) := ⟨Hb2.out.trans (hb3.mono Hb2.out.size)⟩
  clear ho3 hb3 hr3 Hb2 Hw2
  have hl3 := form300
  go_wp2_with fail
  refine (newReader_any _ A3 _ c3 (form 300) w3 Hr3.out (by omega) hc3 (Byt.form 300 (by unfold U64; omega))).mono ?_
  rintro e w4 ⟨B, ok, A', n', c', rfl, hB, hok, hR, hb4⟩
  have HR := Held.mk hR
  have Hb4 : Held (Below w.heap.size w w4) := ⟨Hb3.out.trans (hb4.mono Hb3.out.size)⟩
  have hBw : w.heap.size ≤ B := by have := Hb3.out.size; omega
  clear hR hb4 Hb3 Hr3 hl3 hok hc3
  go_wp2_with fail
  refine (left_any ok B A' n' c' _ w4 HR.out).mono ?_
  rintro e w5 ⟨rfl, rfl⟩
  rw [show (⟨form 300, .ok⟩ : RS).xs.length = 3 from form300]
  go_wp2_with fail
  refine (ruint_any ok B A' n' c' _ 300 w4 HR.out).mono ?_
  rw [u300]
  rintro e w6 ⟨rfl, ⟨A6, n6, c6, hR6⟩, hk6⟩
  have HR6 := Held.mk hR6
  have HK6 := Held.mk hk6
  clear hR6 hk6
  go_wp2_with fail
  refine (end_any ok B A6 n6 c6 _ w6 HR6.out).mono ?_
  rintro e w7 ⟨rfl, rfl⟩
  rw [show endM ⟨[], .ok⟩ = .ok from rfl]
  simp only [Er.enc]
  go_wp2
  go_ret
  exact ⟨rfl, ((Keep.of_below Hb4.out (fun _ => False)).then HK6.out (fun i hi h => by omega)).to_below (fun _ _ h => h)⟩
end Wire
end Go.Proofs.YthkhemcbkcoliaaDoor
