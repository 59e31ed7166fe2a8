/- The document's reader: a number: walked. -/
import Derived.Test.YthkhemcbkcoliaaDoorRrf
namespace Go.Proofs.YthkhemcbkcoliaaDoor
set_option linter.unusedVariables false
set_option linter.unusedSimpArgs false
namespace Wire
open Go.RowKit Mem Apn
theorem peekM_zero (s : RS) (h : (peekM s).2.2 ≠ .ok) : (peekM s).1 = 0 ∧ (peekM s).2.1 = 0 := by
  by_cases he : s.er = .ok
  · rw [peekM_ok he] at h ⊢
    exact num_bad _ h
  · rw [peekM_bad he]
    exact ⟨rfl, rfl⟩
theorem code_ok {e : Er} (h : e = .ok) : e.code = 0 := by rw [h]; rfl
set_option maxHeartbeats 2000000 in
set_option maxRecDepth 100000 in
theorem ruintR_0 (ok : Nat → Prop) (W : Nat) (A : Option Addr) (n c : Nat) (b : List Int) (p : Nat) (s : RS) (most : Nat) (y0 y1 y2 : Value) (w : World) (hB : Blk w W 41 #[.slice A n c, .int .i64 p, .int .i64 s.er.code, y0, y1, y2]) (h : One w ok A n c b p s) (hW : ¬ ok W) :
    Calls Tryd.prog 48 #[.pointer (some ⟨W, 0, none⟩), .int .u64 most] w fun e w' => e = .returned (.int .u64 (uintM s most).1) ∧ (∃ p', Blk w' W 41 #[.slice A n c, .int .i64 (p' : Nat), .int .i64 (uintM s most).2.er.code, y0, y1, y2] ∧ One w' ok A n c b p' (uintM s most).2) ∧ Keep (fun k => k = W) w w' := by
  obtain ⟨x, k, e', hpk⟩ : ∃ x k e', peekM s = (x, k, e') := ⟨_, _, _, rfl⟩
  have hz := peekM_zero s
  have hle := peekM_le s
  have hft := peekM_fit s h.fit
  have HF := Held.mk (rform_0 ok W A n c b p s y0 y1 y2 w hB h hW)
  rw [hpk] at hz hle hft HF
  simp only at hz hle hft HF
  have hxl : s.xs.length = n - p := by rw [h.xs, List.length_drop, h.rd.len]
  have hpn := h.pos
  have hlI : (n : Int) ≤ 140737488355328 := by have := h.len; omega
  have H := Held.mk h
  have HW := Held.mk hW
  have hpkn : p + k ≤ n := by omega
  have hkI : (p : Int) + (k : Int) ≤ (n : Int) := by omega
  clear h hB hW hle
  rcases fit_code hft with ⟨rfl, hc⟩ | ⟨hne, hc1, hc2⟩
  · by_cases hm : most < x
    · have HM : Held (uintM s most = (0, ⟨s.xs, .no 5⟩)) := ⟨by unfold uintM; rw [hpk]; simp [hm, failM]⟩
      have hmI : (most : Int) < (x : Int) := by omega
      rw [hc] at HF
      clear hpk hz hm hxl
      go_enter Tryd.func48, Tryd.ntmps48
      go_wp2_with fail
      refine HF.out.mono ?_
      rintro e w1 ⟨rfl, hb1, hk1⟩
      have k0 := hb1.cell 0
      have k1 := hb1.cell 1
      have k2 := hb1.cell 2
      have f1 := hb1.frozen 1
      have f2 := hb1.frozen 2
      simp at k0 k1 k2
      have HB1 := Held.mk hb1
      have HK1 := Held.mk hk1
      clear hb1 hk1
      go_wp2
      go_ret
      rw [HM.out]
      refine ⟨rfl, ⟨p, ?_, ?_⟩, HK1.out.setCell (p := ⟨W, 2, none⟩) (fun _ => rfl) _⟩
      · have := HB1.out.set_ 2 (.int .i64 5)
        simpa [Er.code] using this
      · have h2 := H.out.keep (HK1.out.setCell (p := ⟨W, 2, none⟩) (fun _ => rfl) (.int .i64 5)) (fun k hk e => HW.out (e ▸ hk))
        exact ⟨h2.rd, h2.cap, h2.len, h2.byt, h2.pos, h2.xs, ⟨by decide, by decide⟩⟩
    · have HM : Held (uintM s most = (x, ⟨s.xs.drop k, .ok⟩)) := ⟨by unfold uintM; rw [hpk]; simp [hm]⟩
      have hmI : ¬ (most : Int) < (x : Int) := by omega
      have hwp : IntKind.i64.wrap ((p : Int) + (k : Int)) = (p : Int) + (k : Int) := IntWalk.i64_in _ ⟨by omega, by omega⟩
      rw [hc] at HF
      clear hpk hz hm hxl
      go_enter Tryd.func48, Tryd.ntmps48
      go_wp2_with fail
      refine HF.out.mono ?_
      rintro e w1 ⟨rfl, hb1, hk1⟩
      have k0 := hb1.cell 0
      have k1 := hb1.cell 1
      have k2 := hb1.cell 2
      have f1 := hb1.frozen 1
      have f2 := hb1.frozen 2
      simp at k0 k1 k2
      have HB1 := Held.mk hb1
      have HK1 := Held.mk hk1
      clear hb1 hk1
      go_wp2
      go_ret
      rw [HM.out]
      refine ⟨rfl, ⟨p + k, ?_, ?_⟩, HK1.out.setCell (p := ⟨W, 1, none⟩) (fun _ => rfl) _⟩
      · have := HB1.out.set_ 1 (.int .i64 ((p : Int) + (k : Int)))
        simpa [Er.code] using this
      · have h2 := H.out.keep (HK1.out.setCell (p := ⟨W, 1, none⟩) (fun _ => rfl) (.int .i64 ((p : Int) + (k : Int)))) (fun k hk e => HW.out (e ▸ hk))
        exact ⟨h2.rd, h2.cap, h2.len, h2.byt, hpkn, by simp only; rw [h2.xs, List.drop_drop], trivial⟩
  · obtain ⟨rfl, rfl⟩ := hz hne
    have HM : Held (uintM s most = (0, ⟨s.xs, e'⟩)) := ⟨by unfold uintM; rw [hpk]; simp⟩
    have HFt := Held.mk hft
    have hcn : ¬ e'.code = 0 := by omega
    generalize hco : e'.code = co at *
    have HCo := Held.mk hco
    clear hpk hz hxl hne hft hco
    go_enter Tryd.func48, Tryd.ntmps48
    go_wp2_with fail
    refine HF.out.mono ?_
    rintro e w1 ⟨rfl, hb1, hk1⟩
    have k0 := hb1.cell 0
    have k1 := hb1.cell 1
    have k2 := hb1.cell 2
    have f1 := hb1.frozen 1
    have f2 := hb1.frozen 2
    simp at k0 k1 k2
    have HB1 := Held.mk hb1
    have HK1 := Held.mk hk1
    clear hb1 hk1
    go_wp2
    go_ret
    rw [HM.out]
    have h2 := H.out.keep HK1.out (fun k hk e => HW.out (e ▸ hk))
    exact ⟨rfl, ⟨p, by rw [HCo.out]; exact HB1.out, ⟨h2.rd, h2.cap, h2.len, h2.byt, h2.pos, h2.xs, HFt.out⟩⟩, HK1.out⟩
set_option maxHeartbeats 2000000 in
set_option maxRecDepth 100000 in
theorem ruintR_3 (ok : Nat → Prop) (W : Nat) (A : Option Addr) (n c : Nat) (b : List Int) (p : Nat) (s : RS) (most : Nat) (y0 y1 y2 : Value) (w : World) (hB : Blk w W 41 #[y0, y1, y2, .slice A n c, .int .i64 p, .int .i64 s.er.code]) (h : One w ok A n c b p s) (hW : ¬ ok W) :
    Calls Tryd.prog 48 #[.pointer (some ⟨W, 3, none⟩), .int .u64 most] w fun e w' => e = .returned (.int .u64 (uintM s most).1) ∧ (∃ p', Blk w' W 41 #[y0, y1, y2, .slice A n c, .int .i64 (p' : Nat), .int .i64 (uintM s most).2.er.code] ∧ One w' ok A n c b p' (uintM s most).2) ∧ Keep (fun k => k = W) w w' := by
  obtain ⟨x, k, e', hpk⟩ : ∃ x k e', peekM s = (x, k, e') := ⟨_, _, _, rfl⟩
  have hz := peekM_zero s
  have hle := peekM_le s
  have hft := peekM_fit s h.fit
  have HF := Held.mk (rform_3 ok W A n c b p s y0 y1 y2 w hB h hW)
  rw [hpk] at hz hle hft HF
  simp only at hz hle hft HF
  have hxl : s.xs.length = n - p := by rw [h.xs, List.length_drop, h.rd.len]
  have hpn := h.pos
  have hlI : (n : Int) ≤ 140737488355328 := by have := h.len; omega
  have H := Held.mk h
  have HW := Held.mk hW
  have hpkn : p + k ≤ n := by omega
  have hkI : (p : Int) + (k : Int) ≤ (n : Int) := by omega
  clear h hB hW hle
  rcases fit_code hft with ⟨rfl, hc⟩ | ⟨hne, hc1, hc2⟩
  · by_cases hm : most < x
    · have HM : Held (uintM s most = (0, ⟨s.xs, .no 5⟩)) := ⟨by unfold uintM; rw [hpk]; simp [hm, failM]⟩
      have hmI : (most : Int) < (x : Int) := by omega
      rw [hc] at HF
      clear hpk hz hm hxl
      go_enter Tryd.func48, Tryd.ntmps48
      go_wp2_with fail
      refine HF.out.mono ?_
      rintro e w1 ⟨rfl, hb1, hk1⟩
      have k0 := hb1.cell 3
      have k1 := hb1.cell 4
      have k2 := hb1.cell 5
      have f1 := hb1.frozen 4
      have f2 := hb1.frozen 5
      simp at k0 k1 k2
      have HB1 := Held.mk hb1
      have HK1 := Held.mk hk1
      clear hb1 hk1
      go_wp2
      go_ret
      rw [HM.out]
      refine ⟨rfl, ⟨p, ?_, ?_⟩, HK1.out.setCell (p := ⟨W, 5, none⟩) (fun _ => rfl) _⟩
      · have := HB1.out.set_ 5 (.int .i64 5)
        simpa [Er.code] using this
      · have h2 := H.out.keep (HK1.out.setCell (p := ⟨W, 5, none⟩) (fun _ => rfl) (.int .i64 5)) (fun k hk e => HW.out (e ▸ hk))
        exact ⟨h2.rd, h2.cap, h2.len, h2.byt, h2.pos, h2.xs, ⟨by decide, by decide⟩⟩
    · have HM : Held (uintM s most = (x, ⟨s.xs.drop k, .ok⟩)) := ⟨by unfold uintM; rw [hpk]; simp [hm]⟩
      have hmI : ¬ (most : Int) < (x : Int) := by omega
      have hwp : IntKind.i64.wrap ((p : Int) + (k : Int)) = (p : Int) + (k : Int) := IntWalk.i64_in _ ⟨by omega, by omega⟩
      rw [hc] at HF
      clear hpk hz hm hxl
      go_enter Tryd.func48, Tryd.ntmps48
      go_wp2_with fail
      refine HF.out.mono ?_
      rintro e w1 ⟨rfl, hb1, hk1⟩
      have k0 := hb1.cell 3
      have k1 := hb1.cell 4
      have k2 := hb1.cell 5
      have f1 := hb1.frozen 4
      have f2 := hb1.frozen 5
      simp at k0 k1 k2
      have HB1 := Held.mk hb1
      have HK1 := Held.mk hk1
      clear hb1 hk1
      go_wp2
      go_ret
      rw [HM.out]
      refine ⟨rfl, ⟨p + k, ?_, ?_⟩, HK1.out.setCell (p := ⟨W, 4, none⟩) (fun _ => rfl) _⟩
      · have := HB1.out.set_ 4 (.int .i64 ((p : Int) + (k : Int)))
        simpa [Er.code] using this
      · have h2 := H.out.keep (HK1.out.setCell (p := ⟨W, 4, none⟩) (fun _ => rfl) (.int .i64 ((p : Int) + (k : Int)))) (fun k hk e => HW.out (e ▸ hk))
        exact ⟨h2.rd, h2.cap, h2.len, h2.byt, hpkn, by simp only; rw [h2.xs, List.drop_drop], trivial⟩
  · obtain ⟨rfl, rfl⟩ := hz hne
    have HM : Held (uintM s most = (0, ⟨s.xs, e'⟩)) := ⟨by unfold uintM; rw [hpk]; simp⟩
    have HFt := Held.mk hft
    have hcn : ¬ e'.code = 0 := by omega
    generalize hco : e'.code = co at *
    have HCo := Held.mk hco
    clear hpk hz hxl hne hft hco
    go_enter Tryd.func48, Tryd.ntmps48
    go_wp2_with fail
    refine HF.out.mono ?_
    rintro e w1 ⟨rfl, hb1, hk1⟩
    have k0 := hb1.cell 3
    have k1 := hb1.cell 4
    have k2 := hb1.cell 5
    have f1 := hb1.frozen 4
    have f2 := hb1.frozen 5
    simp at k0 k1 k2
    have HB1 := Held.mk hb1
    have HK1 := Held.mk hk1
    clear hb1 hk1
    go_wp2
    go_ret
    rw [HM.out]
    have h2 := H.out.keep HK1.out (fun k hk e => HW.out (e ▸ hk))
    exact ⟨rfl, ⟨p, by rw [HCo.out]; exact HB1.out, ⟨h2.rd, h2.cap, h2.len, h2.byt, h2.pos, h2.xs, HFt.out⟩⟩, HK1.out⟩
end Wire
end Go.Proofs.YthkhemcbkcoliaaDoor
