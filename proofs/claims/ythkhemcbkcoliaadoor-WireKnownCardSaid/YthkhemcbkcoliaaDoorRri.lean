/- The document's reader: a number with a sign: walked. -/
import Derived.Test.YthkhemcbkcoliaaDoorRru
namespace Go.Proofs.YthkhemcbkcoliaaDoor
set_option linter.unusedVariables false
set_option linter.unusedSimpArgs false
namespace Wire
open Go.RowKit Mem Apn
set_option maxHeartbeats 1000000 in
set_option maxRecDepth 100000 in
theorem unfolded_any (x : Nat) (w : World) (hx : U64 x) : Calls Tryd.prog 70 #[.int .u64 x] w fun e w' => e = .returned (.int .i64 (unzig x)) ∧ w = w' := by
  unfold U64 at hx
  have e1 : IntKind.u64.wrap ((x : Int) / 2) = (x : Int) / 2 := by simp [IntKind.wrap, IntKind.signed, IntKind.bits]; omega
  have e2 : wrap64 ((x : Int) / 2) = (x : Int) / 2 := by unfold wrap64; omega
  have e3 : wrap64 (-((x : Int) / 2)) = -((x : Int) / 2) := by unfold wrap64; omega
  have e4 : wrap64 (-((x : Int) / 2) - 1) = -((x : Int) / 2) - 1 := by unfold wrap64; omega
  have E1 := Held.mk e1
  have E2 := Held.mk e2
  have E3 := Held.mk e3
  have E4 := Held.mk e4
  clear e1 e2 e3 e4 hx
  by_cases h : x % 2 = 0
  · have hz : (x : Int) % 2 = 0 := by omega
    have HU : Held (unzig x = (x : Int) / 2) := ⟨by unfold unzig; rw [if_pos h]; omega⟩
    clear h
    go_enter Tryd.func70, Tryd.ntmps70
    go_wp2
    go_ret
    refine ⟨?_, rfl⟩
    show Ending.returned (Value.int .i64 (wrap64 (IntKind.u64.wrap ((x : Int) / 2)))) = _
    rw [E1.out, E2.out, HU.out]
  · have hz : (x : Int) % 2 = 1 := by omega
    have HU : Held (unzig x = -((x : Int) / 2) - 1) := ⟨by unfold unzig; rw [if_neg h]; omega⟩
    clear h
    go_enter Tryd.func70, Tryd.ntmps70
    go_wp2
    go_ret
    refine ⟨?_, rfl⟩
    show Ending.returned (Value.int .i64 (wrap64 (wrap64 (-wrap64 (IntKind.u64.wrap ((x : Int) / 2))) - 1))) = _
    rw [E1.out, E2.out, E3.out, E4.out, HU.out]
set_option maxHeartbeats 2000000 in
set_option maxRecDepth 100000 in
theorem rintR_0 (ok : Nat → Prop) (W : Nat) (A : Option Addr) (n c : Nat) (b : List Int) (p : Nat) (s : RS) (y0 y1 y2 : Value) (w : World) (hB : Blk w W 41 #[.slice A n c, .int .i64 p, .int .i64 s.er.code, y0, y1, y2]) (h : One w ok A n c b p s) (hW : ¬ ok W) :
    Calls Tryd.prog 49 #[.pointer (some ⟨W, 0, none⟩)] w fun e w' => e = .returned (.int .i64 (intM s).1) ∧ (∃ p', Blk w' W 41 #[.slice A n c, .int .i64 (p' : Nat), .int .i64 (intM s).2.er.code, y0, y1, y2] ∧ One w' ok A n c b p' (intM s).2) ∧ Keep (fun k => k = W) w w' := by
  have hxs : Byt s.xs := by rw [h.xs]; exact h.byt.drop p
  have hU := peekM_U64 s hxs
  obtain ⟨x, k, e', hpk⟩ : ∃ x k e', peekM s = (x, k, e') := ⟨_, _, _, rfl⟩
  have hz := peekM_zero s
  have hle := peekM_le s
  have hft := peekM_fit s h.fit
  have HF := Held.mk (rform_0 ok W A n c b p s y0 y1 y2 w hB h hW)
  rw [hpk] at hz hle hft HF
  simp only at hz hle hft HF
  have hxl : s.xs.length = n - p := by rw [h.xs, List.length_drop, h.rd.len]
  have hpn := h.pos
  have hlI : (n : Int) ≤ 140737488355328 := by have := h.len; omega
  have H := Held.mk h
  have HW := Held.mk hW
  have hpkn : p + k ≤ n := by omega
  have hkI : (p : Int) + (k : Int) ≤ (n : Int) := by omega
  rw [hpk] at hU
  clear h hB hW hle
  have HM : Held (intM s = (unzig x, ⟨s.xs.drop k, e'⟩)) := ⟨by unfold intM; rw [hpk]⟩
  have HUn := Held.mk (fun w => unfolded_any x w hU)
  clear hU hxs
  rcases fit_code hft with ⟨rfl, hc⟩ | ⟨hne, hc1, hc2⟩
  · have hwp : IntKind.i64.wrap ((p : Int) + (k : Int)) = (p : Int) + (k : Int) := IntWalk.i64_in _ ⟨by omega, by omega⟩
    rw [hc] at HF
    clear hpk hz hxl
    go_enter Tryd.func49, Tryd.ntmps49
    go_wp2_with fail
    refine HF.out.mono ?_
    rintro e w1 ⟨rfl, hb1, hk1⟩
    have k0 := hb1.cell 0
    have k1 := hb1.cell 1
    have k2 := hb1.cell 2
    have f1 := hb1.frozen 1
    have f2 := hb1.frozen 2
    simp at k0 k1 k2
    have HB1 := Held.mk hb1
    have HK1 := Held.mk hk1
    clear hb1 hk1
    go_wp2_with (go_at_call 70; refine (HUn.out _).mono ?_; rintro e w2 ⟨rfl, rfl⟩)
    go_ret
    rw [HM.out]
    refine ⟨rfl, ⟨p + k, ?_, ?_⟩, HK1.out.setCell (p := ⟨W, 1, none⟩) (fun _ => rfl) _⟩
    · have := HB1.out.set_ 1 (.int .i64 ((p : Int) + (k : Int)))
      simpa [Er.code] using this
    · have h2 := H.out.keep (HK1.out.setCell (p := ⟨W, 1, none⟩) (fun _ => rfl) (.int .i64 ((p : Int) + (k : Int)))) (fun k hk e => HW.out (e ▸ hk))
      exact ⟨h2.rd, h2.cap, h2.len, h2.byt, hpkn, by simp only; rw [h2.xs, List.drop_drop], trivial⟩
  · obtain ⟨rfl, rfl⟩ := hz hne
    have HFt := Held.mk hft
    have hcn : ¬ e'.code = 0 := by omega
    generalize hco : e'.code = co at *
    have HCo := Held.mk hco
    clear hpk hz hxl hne hft hco HUn
    go_enter Tryd.func49, Tryd.ntmps49
    go_wp2_with fail
    refine HF.out.mono ?_
    rintro e w1 ⟨rfl, hb1, hk1⟩
    have k0 := hb1.cell 0
    have k1 := hb1.cell 1
    have k2 := hb1.cell 2
    have f1 := hb1.frozen 1
    have f2 := hb1.frozen 2
    simp at k0 k1 k2
    have HB1 := Held.mk hb1
    have HK1 := Held.mk hk1
    clear hb1 hk1
    go_wp2
    go_ret
    rw [HM.out]
    have h2 := H.out.keep HK1.out (fun k hk e => HW.out (e ▸ hk))
    exact ⟨rfl, ⟨p, by rw [HCo.out]; exact HB1.out, ⟨h2.rd, h2.cap, h2.len, h2.byt, h2.pos, h2.xs, HFt.out⟩⟩, HK1.out⟩
set_option maxHeartbeats 2000000 in
set_option maxRecDepth 100000 in
theorem rintR_3 (ok : Nat → Prop) (W : Nat) (A : Option Addr) (n c : Nat) (b : List Int) (p : Nat) (s : RS) (y0 y1 y2 : Value) (w : World) (hB : Blk w W 41 #[y0, y1, y2, .slice A n c, .int .i64 p, .int .i64 s.er.code]) (h : One w ok A n c b p s) (hW : ¬ ok W) :
    Calls Tryd.prog 49 #[.pointer (some ⟨W, 3, none⟩)] w fun e w' => e = .returned (.int .i64 (intM s).1) ∧ (∃ p', Blk w' W 41 #[y0, y1, y2, .slice A n c, .int .i64 (p' : Nat), .int .i64 (intM s).2.er.code] ∧ One w' ok A n c b p' (intM s).2) ∧ Keep (fun k => k = W) w w' := by
  have hxs : Byt s.xs := by rw [h.xs]; exact h.byt.drop p
  have hU := peekM_U64 s hxs
  obtain ⟨x, k, e', hpk⟩ : ∃ x k e', peekM s = (x, k, e') := ⟨_, _, _, rfl⟩
  have hz := peekM_zero s
  have hle := peekM_le s
  have hft := peekM_fit s h.fit
  have HF := Held.mk (rform_3 ok W A n c b p s y0 y1 y2 w hB h hW)
  rw [hpk] at hz hle hft HF
  simp only at hz hle hft HF
  have hxl : s.xs.length = n - p := by rw [h.xs, List.length_drop, h.rd.len]
  have hpn := h.pos
  have hlI : (n : Int) ≤ 140737488355328 := by have := h.len; omega
  have H := Held.mk h
  have HW := Held.mk hW
  have hpkn : p + k ≤ n := by omega
  have hkI : (p : Int) + (k : Int) ≤ (n : Int) := by omega
  rw [hpk] at hU
  clear h hB hW hle
  have HM : Held (intM s = (unzig x, ⟨s.xs.drop k, e'⟩)) := ⟨by unfold intM; rw [hpk]⟩
  have HUn := Held.mk (fun w => unfolded_any x w hU)
  clear hU hxs
  rcases fit_code hft with ⟨rfl, hc⟩ | ⟨hne, hc1, hc2⟩
  · have hwp : IntKind.i64.wrap ((p : Int) + (k : Int)) = (p : Int) + (k : Int) := IntWalk.i64_in _ ⟨by omega, by omega⟩
    rw [hc] at HF
    clear hpk hz hxl
    go_enter Tryd.func49, Tryd.ntmps49
    go_wp2_with fail
    refine HF.out.mono ?_
    rintro e w1 ⟨rfl, hb1, hk1⟩
    have k0 := hb1.cell 3
    have k1 := hb1.cell 4
    have k2 := hb1.cell 5
    have f1 := hb1.frozen 4
    have f2 := hb1.frozen 5
    simp at k0 k1 k2
    have HB1 := Held.mk hb1
    have HK1 := Held.mk hk1
    clear hb1 hk1
    go_wp2_with (go_at_call 70; refine (HUn.out _).mono ?_; rintro e w2 ⟨rfl, rfl⟩)
    go_ret
    rw [HM.out]
    refine ⟨rfl, ⟨p + k, ?_, ?_⟩, HK1.out.setCell (p := ⟨W, 4, none⟩) (fun _ => rfl) _⟩
    · have := HB1.out.set_ 4 (.int .i64 ((p : Int) + (k : Int)))
      simpa [Er.code] using this
    · have h2 := H.out.keep (HK1.out.setCell (p := ⟨W, 4, none⟩) (fun _ => rfl) (.int .i64 ((p : Int) + (k : Int)))) (fun k hk e => HW.out (e ▸ hk))
      exact ⟨h2.rd, h2.cap, h2.len, h2.byt, hpkn, by simp only; rw [h2.xs, List.drop_drop], trivial⟩
  · obtain ⟨rfl, rfl⟩ := hz hne
    have HFt := Held.mk hft
    have hcn : ¬ e'.code = 0 := by omega
    generalize hco : e'.code = co at *
    have HCo := Held.mk hco
    clear hpk hz hxl hne hft hco HUn
    go_enter Tryd.func49, Tryd.ntmps49
    go_wp2_with fail
    refine HF.out.mono ?_
    rintro e w1 ⟨rfl, hb1, hk1⟩
    have k0 := hb1.cell 3
    have k1 := hb1.cell 4
    have k2 := hb1.cell 5
    have f1 := hb1.frozen 4
    have f2 := hb1.frozen 5
    simp at k0 k1 k2
    have HB1 := Held.mk hb1
    have HK1 := Held.mk hk1
    clear hb1 hk1
    go_wp2
    go_ret
    rw [HM.out]
    have h2 := H.out.keep HK1.out (fun k hk e => HW.out (e ▸ hk))
    exact ⟨rfl, ⟨p, by rw [HCo.out]; exact HB1.out, ⟨h2.rd, h2.cap, h2.len, h2.byt, h2.pos, h2.xs, HFt.out⟩⟩, HK1.out⟩
end Wire
end Go.Proofs.YthkhemcbkcoliaaDoor
