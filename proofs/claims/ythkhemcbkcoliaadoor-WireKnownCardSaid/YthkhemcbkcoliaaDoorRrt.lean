/- The document's reader: a text: walked. -/
import Derived.Test.YthkhemcbkcoliaaDoorRru
import Derived.Deep.QuietTactic
import Derived.BigQuiet
namespace Go.Proofs.YthkhemcbkcoliaaDoor
set_option linter.unusedVariables false
set_option linter.unusedSimpArgs false
namespace Wire
open Go.RowKit Mem Apn
set_option maxHeartbeats 4000000 in
set_option maxRecDepth 100000 in
theorem rtextR_0 (ok : Nat → Prop) (W : Nat) (A : Option Addr) (n c : Nat) (b : List Int) (p : Nat) (s : RS) (most : Int) (hm : I64 most) (y0 y1 y2 : Value) (w : World) (hB : Blk w W 41 #[.slice A n c, .int .i64 p, .int .i64 s.er.code, y0, y1, y2]) (h : One w ok A n c b p s) (hW : ¬ ok W) :
    Calls Tryd.prog 50 #[.pointer (some ⟨W, 0, none⟩), .int .i64 most] w fun e w' => e = .returned (.string (strOfNums (textM s most).1)) ∧ (∃ p', Blk w' W 41 #[.slice A n c, .int .i64 (p' : Nat), .int .i64 (textM s most).2.er.code, y0, y1, y2] ∧ One w' ok A n c b p' (textM s most).2) ∧ Keep (fun k => k = W) w w' := by
  have hxs : Byt s.xs := by rw [h.xs]; exact h.byt.drop p
  have hU := peekM_U64 s hxs
  have hcap := h.cap
  have hrd := h.rd
  have hbyt := h.byt
  obtain ⟨x, k, e', hpk⟩ : ∃ x k e', peekM s = (x, k, e') := ⟨_, _, _, rfl⟩
  have hz := peekM_zero s
  have hle := peekM_le s
  have hft := peekM_fit s h.fit
  have HF := Held.mk (rform_0 ok W A n c b p s y0 y1 y2 w hB h hW)
  rw [hpk] at hz hle hft HF
  simp only at hz hle hft HF
  have hxl : s.xs.length = n - p := by rw [h.xs, List.length_drop, h.rd.len]
  have hpn := h.pos
  have hlI : (n : Int) ≤ 140737488355328 := by have := h.len; omega
  have H := Held.mk h
  have HW := Held.mk hW
  have hpkn : p + k ≤ n := by omega
  have hkI : (p : Int) + (k : Int) ≤ (n : Int) := by omega
  rw [hpk] at hU
  clear h hB hW hle
  clear hxs
  rcases fit_code hft with ⟨rfl, hc⟩ | ⟨hne, hc1, hc2⟩
  · obtain ⟨mm, hmm⟩ : ∃ mm : Nat, (max most 0).toNat = mm := ⟨_, rfl⟩
    rw [hc] at HF
    have hw1 : IntKind.i64.wrap ((n : Int) - (p : Int)) = (n : Int) - (p : Int) := IntWalk.i64_in _ ⟨by omega, by omega⟩
    have hw2 : IntKind.i64.wrap ((n : Int) - (p : Int) - (k : Int)) = (n : Int) - (p : Int) - (k : Int) := IntWalk.i64_in _ ⟨by omega, by omega⟩
    have hw3 : IntKind.u64.wrap ((n : Int) - (p : Int) - (k : Int)) = (n : Int) - (p : Int) - (k : Int) := by rw [IntKind.wrap_u64]; omega
    have hw4 : IntKind.i64.wrap ((p : Int) + (k : Int)) = (p : Int) + (k : Int) := IntWalk.i64_in _ ⟨by omega, by omega⟩
    unfold I64 at hm
    have hq : (most < 0 ∧ mm = 0) ∨ (¬ most < 0 ∧ most = (mm : Int) ∧ IntKind.u64.wrap (mm : Int) = (mm : Int)) := by
      rcases Int.lt_or_le most 0 with h0 | h0
      · exact .inl ⟨h0, by omega⟩
      · exact .inr ⟨by omega, by omega, by rw [IntKind.wrap_u64]; omega⟩
    by_cases hlt : mm < x
    · have HM : Held (textM s most = ([], ⟨s.xs, .no 5⟩)) := ⟨by unfold textM; rw [hpk, hmm]; simp [hlt, failM]⟩
      have hltI : (mm : Int) < (x : Int) := by omega
      clear hpk hz hxl hU hmm hm hlt hcap hrd hbyt hw1 hw2 hw3 hw4
      rcases hq with ⟨h0, rfl⟩ | ⟨h0, rfl, hwm⟩
      · skip
        go_enter Tryd.func50, Tryd.ntmps50
        go_wp2_with fail
        refine HF.out.mono ?_
        rintro e w1 ⟨rfl, hb1, hk1⟩
        have k0 := hb1.cell 0
        have k1 := hb1.cell 1
        have k2 := hb1.cell 2
        have f1 := hb1.frozen 1
        have f2 := hb1.frozen 2
        simp at k0 k1 k2
        have HB1 := Held.mk hb1
        have HK1 := Held.mk hk1
        clear hb1 hk1
        go_wp2
        go_ret
        rw [HM.out]
        refine ⟨rfl, ⟨p, ?_, ?_⟩, HK1.out.setCell (p := ⟨W, 2, none⟩) (fun _ => rfl) _⟩
        · have := HB1.out.set_ 2 (.int .i64 5)
          simpa [Er.code] using this
        · have h2 := H.out.keep (HK1.out.setCell (p := ⟨W, 2, none⟩) (fun _ => rfl) (.int .i64 5)) (fun k hk e => HW.out (e ▸ hk))
          exact ⟨h2.rd, h2.cap, h2.len, h2.byt, h2.pos, h2.xs, ⟨by decide, by decide⟩⟩
      · skip
        go_enter Tryd.func50, Tryd.ntmps50
        go_wp2_with fail
        refine HF.out.mono ?_
        rintro e w1 ⟨rfl, hb1, hk1⟩
        have k0 := hb1.cell 0
        have k1 := hb1.cell 1
        have k2 := hb1.cell 2
        have f1 := hb1.frozen 1
        have f2 := hb1.frozen 2
        simp at k0 k1 k2
        have HB1 := Held.mk hb1
        have HK1 := Held.mk hk1
        clear hb1 hk1
        go_wp2
        go_ret
        rw [HM.out]
        refine ⟨rfl, ⟨p, ?_, ?_⟩, HK1.out.setCell (p := ⟨W, 2, none⟩) (fun _ => rfl) _⟩
        · have := HB1.out.set_ 2 (.int .i64 5)
          simpa [Er.code] using this
        · have h2 := H.out.keep (HK1.out.setCell (p := ⟨W, 2, none⟩) (fun _ => rfl) (.int .i64 5)) (fun k hk e => HW.out (e ▸ hk))
          exact ⟨h2.rd, h2.cap, h2.len, h2.byt, h2.pos, h2.xs, ⟨by decide, by decide⟩⟩
    · have hltI : ¬ (mm : Int) < (x : Int) := by omega
      by_cases hsh : s.xs.length - k < x
      · have HM : Held (textM s most = ([], ⟨s.xs, .no 2⟩)) := ⟨by unfold textM; rw [hpk, hmm]; simp [hlt, hsh, failM]⟩
        have hshI : (n : Int) - (p : Int) - (k : Int) < (x : Int) := by omega
        clear hpk hz hxl hU hmm hm hlt hsh hcap hrd hbyt
        rcases hq with ⟨h0, rfl⟩ | ⟨h0, rfl, hwm⟩
        · exfalso
          omega
        · skip
          go_enter Tryd.func50, Tryd.ntmps50
          go_wp2_with fail
          refine HF.out.mono ?_
          rintro e w1 ⟨rfl, hb1, hk1⟩
          have k0 := hb1.cell 0
          have k1 := hb1.cell 1
          have k2 := hb1.cell 2
          have f1 := hb1.frozen 1
          have f2 := hb1.frozen 2
          simp at k0 k1 k2
          have HB1 := Held.mk hb1
          have HK1 := Held.mk hk1
          clear hb1 hk1
          go_wp2_with fail
          go_quiet (fail)
          have hb1 := Blk.drewN HB1.out nq
          have hk1 := HK1.out.drewN nq
          clear HB1 HK1 k0 k1 k2 f1 f2
          generalize w1.drewN nq = w2 at *
          have k0 := hb1.cell 0
          have k1 := hb1.cell 1
          have k2 := hb1.cell 2
          have f1 := hb1.frozen 1
          have f2 := hb1.frozen 2
          simp at k0 k1 k2
          have HB1 := Held.mk hb1
          have HK1 := Held.mk hk1
          clear hb1 hk1
          go_wp2
          go_ret
          rw [HM.out]
          refine ⟨rfl, ⟨p, ?_, ?_⟩, HK1.out.setCell (p := ⟨W, 2, none⟩) (fun _ => rfl) _⟩
          · have := HB1.out.set_ 2 (.int .i64 2)
            simpa [Er.code] using this
          · have h2 := H.out.keep (HK1.out.setCell (p := ⟨W, 2, none⟩) (fun _ => rfl) (.int .i64 2)) (fun k hk e => HW.out (e ▸ hk))
            exact ⟨h2.rd, h2.cap, h2.len, h2.byt, h2.pos, h2.xs, ⟨by decide, by decide⟩⟩
      · have HM : Held (textM s most = ((s.xs.drop k).take x, ⟨s.xs.drop (k + x), .ok⟩)) := ⟨by unfold textM; rw [hpk, hmm]; simp [hlt, hsh]⟩
        have hshI : ¬ (n : Int) - (p : Int) - (k : Int) < (x : Int) := by omega
        have hpx : p + k + x ≤ n := by omega
        have hw5 : IntKind.i64.wrap (x : Int) = (x : Int) := IntWalk.i64_in _ ⟨by omega, by omega⟩
        have hw6 : IntKind.i64.wrap ((p : Int) + (k : Int) + (x : Int)) = (p : Int) + (k : Int) + (x : Int) := IntWalk.i64_in _ ⟨by omega, by omega⟩
        obtain ⟨A1, n1, c1, hn1, hle1, hrun1, hrd1⟩ := cutM (P := Tryd.prog) 23 5 .i64 .i64 Tryd.underlying23 info_size A n c (p + k) (p + k + x) (by omega) (by omega) hcap
        have e1 : ((p + k + x : Nat) : Int) = (p : Int) + (k : Int) + (x : Int) := by omega
        have e2 : ((p + k : Nat) : Int) = (p : Int) + (k : Int) := by omega
        simp only [e1, e2] at hrun1
        have HE : Held ((b.take (p + k + x)).drop (p + k) = (s.xs.drop k).take x) := ⟨by rw [mid_eq, H.out.xs, List.drop_drop]⟩
        have HRd := Held.mk hrd1
        have Hbt : Held (∀ y ∈ (b.take (p + k + x)).drop (p + k), 0 ≤ y ∧ y ≤ 255) := ⟨(hbyt.take _).drop _⟩
        have HPX := Held.mk hpx
        clear hpk hz hxl hU hmm hm hlt hsh hcap hrd hbyt hrd1 e1 e2 hpx
        rcases hq with ⟨h0, rfl⟩ | ⟨h0, rfl, hwm⟩
        · skip
          go_enter Tryd.func50, Tryd.ntmps50
          go_wp2_with fail
          refine HF.out.mono ?_
          rintro e w1 ⟨rfl, hb1, hk1⟩
          have k0 := hb1.cell 0
          have k1 := hb1.cell 1
          have k2 := hb1.cell 2
          have f1 := hb1.frozen 1
          have f2 := hb1.frozen 2
          simp at k0 k1 k2
          have HB1 := Held.mk hb1
          have HK1 := Held.mk hk1
          clear hb1 hk1
          go_wp2_with fail
          go_quiet (fail)
          have hb1 := Blk.drewN HB1.out nq
          have hk1 := HK1.out.drewN nq
          clear HB1 HK1 k0 k1 k2 f1 f2
          generalize w1.drewN nq = w2 at *
          have k0 := hb1.cell 0
          have k1 := hb1.cell 1
          have k2 := hb1.cell 2
          have f1 := hb1.frozen 1
          have f2 := hb1.frozen 2
          simp at k0 k1 k2
          have HB1 := Held.mk hb1
          have HK1 := Held.mk hk1
          clear hb1 hk1
          have hcv := fun mq => cvtS (P := Tryd.prog) (w := w2.drewN mq) (c := c1) 23 9 5 Tryd.underlying23 Tryd.underlying5 Tryd.underlying9 (RdV.nums_mid (HRd.out (w2.drewN mq) ok _ (H.out.keep (HK1.out.drewN mq) (fun k hk e => HW.out (e ▸ hk))).rd)) Hbt.out
          simp only [HE.out] at hcv
          go_wp2_with fail
          go_quiet (fail)
          have hb1 := Blk.drewN HB1.out nq
          have hk1 := HK1.out.drewN nq
          clear HB1 HK1 k0 k1 k2 f1 f2
          generalize w2.drewN nq = w3 at *
          have k0 := hb1.cell 0
          have k1 := hb1.cell 1
          have k2 := hb1.cell 2
          have f1 := hb1.frozen 1
          have f2 := hb1.frozen 2
          simp at k0 k1 k2
          have HB1 := Held.mk hb1
          have HK1 := Held.mk hk1
          clear hb1 hk1
          clear hcv
          go_wp2
          go_ret
          rw [HM.out]
          refine ⟨rfl, ⟨p + k + x, ?_, ?_⟩, HK1.out.setCell (p := ⟨W, 1, none⟩) (fun _ => rfl) _⟩
          · have := HB1.out.set_ 1 (.int .i64 ((p : Int) + (k : Int) + (x : Int)))
            simpa [Er.code] using this
          · have h2 := H.out.keep (HK1.out.setCell (p := ⟨W, 1, none⟩) (fun _ => rfl) (.int .i64 ((p : Int) + (k : Int) + (x : Int)))) (fun k hk e => HW.out (e ▸ hk))
            exact ⟨h2.rd, h2.cap, h2.len, h2.byt, HPX.out, by simp only; rw [h2.xs, List.drop_drop, Nat.add_assoc], trivial⟩
        · skip
          go_enter Tryd.func50, Tryd.ntmps50
          go_wp2_with fail
          refine HF.out.mono ?_
          rintro e w1 ⟨rfl, hb1, hk1⟩
          have k0 := hb1.cell 0
          have k1 := hb1.cell 1
          have k2 := hb1.cell 2
          have f1 := hb1.frozen 1
          have f2 := hb1.frozen 2
          simp at k0 k1 k2
          have HB1 := Held.mk hb1
          have HK1 := Held.mk hk1
          clear hb1 hk1
          go_wp2_with fail
          go_quiet (fail)
          have hb1 := Blk.drewN HB1.out nq
          have hk1 := HK1.out.drewN nq
          clear HB1 HK1 k0 k1 k2 f1 f2
          generalize w1.drewN nq = w2 at *
          have k0 := hb1.cell 0
          have k1 := hb1.cell 1
          have k2 := hb1.cell 2
          have f1 := hb1.frozen 1
          have f2 := hb1.frozen 2
          simp at k0 k1 k2
          have HB1 := Held.mk hb1
          have HK1 := Held.mk hk1
          clear hb1 hk1
          have hcv := fun mq => cvtS (P := Tryd.prog) (w := w2.drewN mq) (c := c1) 23 9 5 Tryd.underlying23 Tryd.underlying5 Tryd.underlying9 (RdV.nums_mid (HRd.out (w2.drewN mq) ok _ (H.out.keep (HK1.out.drewN mq) (fun k hk e => HW.out (e ▸ hk))).rd)) Hbt.out
          simp only [HE.out] at hcv
          go_wp2_with fail
          go_quiet (fail)
          have hb1 := Blk.drewN HB1.out nq
          have hk1 := HK1.out.drewN nq
          clear HB1 HK1 k0 k1 k2 f1 f2
          generalize w2.drewN nq = w3 at *
          have k0 := hb1.cell 0
          have k1 := hb1.cell 1
          have k2 := hb1.cell 2
          have f1 := hb1.frozen 1
          have f2 := hb1.frozen 2
          simp at k0 k1 k2
          have HB1 := Held.mk hb1
          have HK1 := Held.mk hk1
          clear hb1 hk1
          clear hcv
          go_wp2
          go_ret
          rw [HM.out]
          refine ⟨rfl, ⟨p + k + x, ?_, ?_⟩, HK1.out.setCell (p := ⟨W, 1, none⟩) (fun _ => rfl) _⟩
          · have := HB1.out.set_ 1 (.int .i64 ((p : Int) + (k : Int) + (x : Int)))
            simpa [Er.code] using this
          · have h2 := H.out.keep (HK1.out.setCell (p := ⟨W, 1, none⟩) (fun _ => rfl) (.int .i64 ((p : Int) + (k : Int) + (x : Int)))) (fun k hk e => HW.out (e ▸ hk))
            exact ⟨h2.rd, h2.cap, h2.len, h2.byt, HPX.out, by simp only; rw [h2.xs, List.drop_drop, Nat.add_assoc], trivial⟩
  · obtain ⟨rfl, rfl⟩ := hz hne
    have HM : Held (textM s most = ([], ⟨s.xs, e'⟩)) := ⟨by unfold textM; rw [hpk]; simp⟩
    have HFt := Held.mk hft
    have hcn : ¬ e'.code = 0 := by omega
    generalize hco : e'.code = co at *
    have HCo := Held.mk hco
    clear hpk hz hxl hne hft hco hU hcap hrd hbyt hm
    go_enter Tryd.func50, Tryd.ntmps50
    go_wp2_with fail
    refine HF.out.mono ?_
    rintro e w1 ⟨rfl, hb1, hk1⟩
    have k0 := hb1.cell 0
    have k1 := hb1.cell 1
    have k2 := hb1.cell 2
    have f1 := hb1.frozen 1
    have f2 := hb1.frozen 2
    simp at k0 k1 k2
    have HB1 := Held.mk hb1
    have HK1 := Held.mk hk1
    clear hb1 hk1
    go_wp2
    go_ret
    rw [HM.out]
    have h2 := H.out.keep HK1.out (fun k hk e => HW.out (e ▸ hk))
    exact ⟨rfl, ⟨p, by rw [HCo.out]; exact HB1.out, ⟨h2.rd, h2.cap, h2.len, h2.byt, h2.pos, h2.xs, HFt.out⟩⟩, HK1.out⟩
set_option maxHeartbeats 4000000 in
set_option maxRecDepth 100000 in
theorem rtextR_3 (ok : Nat → Prop) (W : Nat) (A : Option Addr) (n c : Nat) (b : List Int) (p : Nat) (s : RS) (most : Int) (hm : I64 most) (y0 y1 y2 : Value) (w : World) (hB : Blk w W 41 #[y0, y1, y2, .slice A n c, .int .i64 p, .int .i64 s.er.code]) (h : One w ok A n c b p s) (hW : ¬ ok W) :
    Calls Tryd.prog 50 #[.pointer (some ⟨W, 3, none⟩), .int .i64 most] w fun e w' => e = .returned (.string (strOfNums (textM s most).1)) ∧ (∃ p', Blk w' W 41 #[y0, y1, y2, .slice A n c, .int .i64 (p' : Nat), .int .i64 (textM s most).2.er.code] ∧ One w' ok A n c b p' (textM s most).2) ∧ Keep (fun k => k = W) w w' := by
  have hxs : Byt s.xs := by rw [h.xs]; exact h.byt.drop p
  have hU := peekM_U64 s hxs
  have hcap := h.cap
  have hrd := h.rd
  have hbyt := h.byt
  obtain ⟨x, k, e', hpk⟩ : ∃ x k e', peekM s = (x, k, e') := ⟨_, _, _, rfl⟩
  have hz := peekM_zero s
  have hle := peekM_le s
  have hft := peekM_fit s h.fit
  have HF := Held.mk (rform_3 ok W A n c b p s y0 y1 y2 w hB h hW)
  rw [hpk] at hz hle hft HF
  simp only at hz hle hft HF
  have hxl : s.xs.length = n - p := by rw [h.xs, List.length_drop, h.rd.len]
  have hpn := h.pos
  have hlI : (n : Int) ≤ 140737488355328 := by have := h.len; omega
  have H := Held.mk h
  have HW := Held.mk hW
  have hpkn : p + k ≤ n := by omega
  have hkI : (p : Int) + (k : Int) ≤ (n : Int) := by omega
  rw [hpk] at hU
  clear h hB hW hle
  clear hxs
  rcases fit_code hft with ⟨rfl, hc⟩ | ⟨hne, hc1, hc2⟩
  · obtain ⟨mm, hmm⟩ : ∃ mm : Nat, (max most 0).toNat = mm := ⟨_, rfl⟩
    rw [hc] at HF
    have hw1 : IntKind.i64.wrap ((n : Int) - (p : Int)) = (n : Int) - (p : Int) := IntWalk.i64_in _ ⟨by omega, by omega⟩
    have hw2 : IntKind.i64.wrap ((n : Int) - (p : Int) - (k : Int)) = (n : Int) - (p : Int) - (k : Int) := IntWalk.i64_in _ ⟨by omega, by omega⟩
    have hw3 : IntKind.u64.wrap ((n : Int) - (p : Int) - (k : Int)) = (n : Int) - (p : Int) - (k : Int) := by rw [IntKind.wrap_u64]; omega
    have hw4 : IntKind.i64.wrap ((p : Int) + (k : Int)) = (p : Int) + (k : Int) := IntWalk.i64_in _ ⟨by omega, by omega⟩
    unfold I64 at hm
    have hq : (most < 0 ∧ mm = 0) ∨ (¬ most < 0 ∧ most = (mm : Int) ∧ IntKind.u64.wrap (mm : Int) = (mm : Int)) := by
      rcases Int.lt_or_le most 0 with h0 | h0
      · exact .inl ⟨h0, by omega⟩
      · exact .inr ⟨by omega, by omega, by rw [IntKind.wrap_u64]; omega⟩
    by_cases hlt : mm < x
    · have HM : Held (textM s most = ([], ⟨s.xs, .no 5⟩)) := ⟨by unfold textM; rw [hpk, hmm]; simp [hlt, failM]⟩
      have hltI : (mm : Int) < (x : Int) := by omega
      clear hpk hz hxl hU hmm hm hlt hcap hrd hbyt hw1 hw2 hw3 hw4
      rcases hq with ⟨h0, rfl⟩ | ⟨h0, rfl, hwm⟩
      · skip
        go_enter Tryd.func50, Tryd.ntmps50
        go_wp2_with fail
        refine HF.out.mono ?_
        rintro e w1 ⟨rfl, hb1, hk1⟩
        have k0 := hb1.cell 3
        have k1 := hb1.cell 4
        have k2 := hb1.cell 5
        have f1 := hb1.frozen 4
        have f2 := hb1.frozen 5
        simp at k0 k1 k2
        have HB1 := Held.mk hb1
        have HK1 := Held.mk hk1
        clear hb1 hk1
        go_wp2
        go_ret
        rw [HM.out]
        refine ⟨rfl, ⟨p, ?_, ?_⟩, HK1.out.setCell (p := ⟨W, 5, none⟩) (fun _ => rfl) _⟩
        · have := HB1.out.set_ 5 (.int .i64 5)
          simpa [Er.code] using this
        · have h2 := H.out.keep (HK1.out.setCell (p := ⟨W, 5, none⟩) (fun _ => rfl) (.int .i64 5)) (fun k hk e => HW.out (e ▸ hk))
          exact ⟨h2.rd, h2.cap, h2.len, h2.byt, h2.pos, h2.xs, ⟨by decide, by decide⟩⟩
      · skip
        go_enter Tryd.func50, Tryd.ntmps50
        go_wp2_with fail
        refine HF.out.mono ?_
        rintro e w1 ⟨rfl, hb1, hk1⟩
        have k0 := hb1.cell 3
        have k1 := hb1.cell 4
        have k2 := hb1.cell 5
        have f1 := hb1.frozen 4
        have f2 := hb1.frozen 5
        simp at k0 k1 k2
        have HB1 := Held.mk hb1
        have HK1 := Held.mk hk1
        clear hb1 hk1
        go_wp2
        go_ret
        rw [HM.out]
        refine ⟨rfl, ⟨p, ?_, ?_⟩, HK1.out.setCell (p := ⟨W, 5, none⟩) (fun _ => rfl) _⟩
        · have := HB1.out.set_ 5 (.int .i64 5)
          simpa [Er.code] using this
        · have h2 := H.out.keep (HK1.out.setCell (p := ⟨W, 5, none⟩) (fun _ => rfl) (.int .i64 5)) (fun k hk e => HW.out (e ▸ hk))
          exact ⟨h2.rd, h2.cap, h2.len, h2.byt, h2.pos, h2.xs, ⟨by decide, by decide⟩⟩
    · have hltI : ¬ (mm : Int) < (x : Int) := by omega
      by_cases hsh : s.xs.length - k < x
      · have HM : Held (textM s most = ([], ⟨s.xs, .no 2⟩)) := ⟨by unfold textM; rw [hpk, hmm]; simp [hlt, hsh, failM]⟩
        have hshI : (n : Int) - (p : Int) - (k : Int) < (x : Int) := by omega
        clear hpk hz hxl hU hmm hm hlt hsh hcap hrd hbyt
        rcases hq with ⟨h0, rfl⟩ | ⟨h0, rfl, hwm⟩
        · exfalso
          omega
        · skip
          go_enter Tryd.func50, Tryd.ntmps50
          go_wp2_with fail
          refine HF.out.mono ?_
          rintro e w1 ⟨rfl, hb1, hk1⟩
          have k0 := hb1.cell 3
          have k1 := hb1.cell 4
          have k2 := hb1.cell 5
          have f1 := hb1.frozen 4
          have f2 := hb1.frozen 5
          simp at k0 k1 k2
          have HB1 := Held.mk hb1
          have HK1 := Held.mk hk1
          clear hb1 hk1
          go_wp2_with fail
          go_quiet (fail)
          have hb1 := Blk.drewN HB1.out nq
          have hk1 := HK1.out.drewN nq
          clear HB1 HK1 k0 k1 k2 f1 f2
          generalize w1.drewN nq = w2 at *
          have k0 := hb1.cell 3
          have k1 := hb1.cell 4
          have k2 := hb1.cell 5
          have f1 := hb1.frozen 4
          have f2 := hb1.frozen 5
          simp at k0 k1 k2
          have HB1 := Held.mk hb1
          have HK1 := Held.mk hk1
          clear hb1 hk1
          go_wp2
          go_ret
          rw [HM.out]
          refine ⟨rfl, ⟨p, ?_, ?_⟩, HK1.out.setCell (p := ⟨W, 5, none⟩) (fun _ => rfl) _⟩
          · have := HB1.out.set_ 5 (.int .i64 2)
            simpa [Er.code] using this
          · have h2 := H.out.keep (HK1.out.setCell (p := ⟨W, 5, none⟩) (fun _ => rfl) (.int .i64 2)) (fun k hk e => HW.out (e ▸ hk))
            exact ⟨h2.rd, h2.cap, h2.len, h2.byt, h2.pos, h2.xs, ⟨by decide, by decide⟩⟩
      · have HM : Held (textM s most = ((s.xs.drop k).take x, ⟨s.xs.drop (k + x), .ok⟩)) := ⟨by unfold textM; rw [hpk, hmm]; simp [hlt, hsh]⟩
        have hshI : ¬ (n : Int) - (p : Int) - (k : Int) < (x : Int) := by omega
        have hpx : p + k + x ≤ n := by omega
        have hw5 : IntKind.i64.wrap (x : Int) = (x : Int) := IntWalk.i64_in _ ⟨by omega, by omega⟩
        have hw6 : IntKind.i64.wrap ((p : Int) + (k : Int) + (x : Int)) = (p : Int) + (k : Int) + (x : Int) := IntWalk.i64_in _ ⟨by omega, by omega⟩
        obtain ⟨A1, n1, c1, hn1, hle1, hrun1, hrd1⟩ := cutM (P := Tryd.prog) 23 5 .i64 .i64 Tryd.underlying23 info_size A n c (p + k) (p + k + x) (by omega) (by omega) hcap
        have e1 : ((p + k + x : Nat) : Int) = (p : Int) + (k : Int) + (x : Int) := by omega
        have e2 : ((p + k : Nat) : Int) = (p : Int) + (k : Int) := by omega
        simp only [e1, e2] at hrun1
        have HE : Held ((b.take (p + k + x)).drop (p + k) = (s.xs.drop k).take x) := ⟨by rw [mid_eq, H.out.xs, List.drop_drop]⟩
        have HRd := Held.mk hrd1
        have Hbt : Held (∀ y ∈ (b.take (p + k + x)).drop (p + k), 0 ≤ y ∧ y ≤ 255) := ⟨(hbyt.take _).drop _⟩
        have HPX := Held.mk hpx
        clear hpk hz hxl hU hmm hm hlt hsh hcap hrd hbyt hrd1 e1 e2 hpx
        rcases hq with ⟨h0, rfl⟩ | ⟨h0, rfl, hwm⟩
        · skip
          go_enter Tryd.func50, Tryd.ntmps50
          go_wp2_with fail
          refine HF.out.mono ?_
          rintro e w1 ⟨rfl, hb1, hk1⟩
          have k0 := hb1.cell 3
          have k1 := hb1.cell 4
          have k2 := hb1.cell 5
          have f1 := hb1.frozen 4
          have f2 := hb1.frozen 5
          simp at k0 k1 k2
          have HB1 := Held.mk hb1
          have HK1 := Held.mk hk1
          clear hb1 hk1
          go_wp2_with fail
          go_quiet (fail)
          have hb1 := Blk.drewN HB1.out nq
          have hk1 := HK1.out.drewN nq
          clear HB1 HK1 k0 k1 k2 f1 f2
          generalize w1.drewN nq = w2 at *
          have k0 := hb1.cell 3
          have k1 := hb1.cell 4
          have k2 := hb1.cell 5
          have f1 := hb1.frozen 4
          have f2 := hb1.frozen 5
          simp at k0 k1 k2
          have HB1 := Held.mk hb1
          have HK1 := Held.mk hk1
          clear hb1 hk1
          have hcv := fun mq => cvtS (P := Tryd.prog) (w := w2.drewN mq) (c := c1) 23 9 5 Tryd.underlying23 Tryd.underlying5 Tryd.underlying9 (RdV.nums_mid (HRd.out (w2.drewN mq) ok _ (H.out.keep (HK1.out.drewN mq) (fun k hk e => HW.out (e ▸ hk))).rd)) Hbt.out
          simp only [HE.out] at hcv
          go_wp2_with fail
          go_quiet (fail)
          have hb1 := Blk.drewN HB1.out nq
          have hk1 := HK1.out.drewN nq
          clear HB1 HK1 k0 k1 k2 f1 f2
          generalize w2.drewN nq = w3 at *
          have k0 := hb1.cell 3
          have k1 := hb1.cell 4
          have k2 := hb1.cell 5
          have f1 := hb1.frozen 4
          have f2 := hb1.frozen 5
          simp at k0 k1 k2
          have HB1 := Held.mk hb1
          have HK1 := Held.mk hk1
          clear hb1 hk1
          clear hcv
          go_wp2
          go_ret
          rw [HM.out]
          refine ⟨rfl, ⟨p + k + x, ?_, ?_⟩, HK1.out.setCell (p := ⟨W, 4, none⟩) (fun _ => rfl) _⟩
          · have := HB1.out.set_ 4 (.int .i64 ((p : Int) + (k : Int) + (x : Int)))
            simpa [Er.code] using this
          · have h2 := H.out.keep (HK1.out.setCell (p := ⟨W, 4, none⟩) (fun _ => rfl) (.int .i64 ((p : Int) + (k : Int) + (x : Int)))) (fun k hk e => HW.out (e ▸ hk))
            exact ⟨h2.rd, h2.cap, h2.len, h2.byt, HPX.out, by simp only; rw [h2.xs, List.drop_drop, Nat.add_assoc], trivial⟩
        · skip
          go_enter Tryd.func50, Tryd.ntmps50
          go_wp2_with fail
          refine HF.out.mono ?_
          rintro e w1 ⟨rfl, hb1, hk1⟩
          have k0 := hb1.cell 3
          have k1 := hb1.cell 4
          have k2 := hb1.cell 5
          have f1 := hb1.frozen 4
          have f2 := hb1.frozen 5
          simp at k0 k1 k2
          have HB1 := Held.mk hb1
          have HK1 := Held.mk hk1
          clear hb1 hk1
          go_wp2_with fail
          go_quiet (fail)
          have hb1 := Blk.drewN HB1.out nq
          have hk1 := HK1.out.drewN nq
          clear HB1 HK1 k0 k1 k2 f1 f2
          generalize w1.drewN nq = w2 at *
          have k0 := hb1.cell 3
          have k1 := hb1.cell 4
          have k2 := hb1.cell 5
          have f1 := hb1.frozen 4
          have f2 := hb1.frozen 5
          simp at k0 k1 k2
          have HB1 := Held.mk hb1
          have HK1 := Held.mk hk1
          clear hb1 hk1
          have hcv := fun mq => cvtS (P := Tryd.prog) (w := w2.drewN mq) (c := c1) 23 9 5 Tryd.underlying23 Tryd.underlying5 Tryd.underlying9 (RdV.nums_mid (HRd.out (w2.drewN mq) ok _ (H.out.keep (HK1.out.drewN mq) (fun k hk e => HW.out (e ▸ hk))).rd)) Hbt.out
          simp only [HE.out] at hcv
          go_wp2_with fail
          go_quiet (fail)
          have hb1 := Blk.drewN HB1.out nq
          have hk1 := HK1.out.drewN nq
          clear HB1 HK1 k0 k1 k2 f1 f2
          generalize w2.drewN nq = w3 at *
          have k0 := hb1.cell 3
          have k1 := hb1.cell 4
          have k2 := hb1.cell 5
          have f1 := hb1.frozen 4
          have f2 := hb1.frozen 5
          simp at k0 k1 k2
          have HB1 := Held.mk hb1
          have HK1 := Held.mk hk1
          clear hb1 hk1
          clear hcv
          go_wp2
          go_ret
          rw [HM.out]
          refine ⟨rfl, ⟨p + k + x, ?_, ?_⟩, HK1.out.setCell (p := ⟨W, 4, none⟩) (fun _ => rfl) _⟩
          · have := HB1.out.set_ 4 (.int .i64 ((p : Int) + (k : Int) + (x : Int)))
            simpa [Er.code] using this
          · have h2 := H.out.keep (HK1.out.setCell (p := ⟨W, 4, none⟩) (fun _ => rfl) (.int .i64 ((p : Int) + (k : Int) + (x : Int)))) (fun k hk e => HW.out (e ▸ hk))
            exact ⟨h2.rd, h2.cap, h2.len, h2.byt, HPX.out, by simp only; rw [h2.xs, List.drop_drop, Nat.add_assoc], trivial⟩
  · obtain ⟨rfl, rfl⟩ := hz hne
    have HM : Held (textM s most = ([], ⟨s.xs, e'⟩)) := ⟨by unfold textM; rw [hpk]; simp⟩
    have HFt := Held.mk hft
    have hcn : ¬ e'.code = 0 := by omega
    generalize hco : e'.code = co at *
    have HCo := Held.mk hco
    clear hpk hz hxl hne hft hco hU hcap hrd hbyt hm
    go_enter Tryd.func50, Tryd.ntmps50
    go_wp2_with fail
    refine HF.out.mono ?_
    rintro e w1 ⟨rfl, hb1, hk1⟩
    have k0 := hb1.cell 3
    have k1 := hb1.cell 4
    have k2 := hb1.cell 5
    have f1 := hb1.frozen 4
    have f2 := hb1.frozen 5
    simp at k0 k1 k2
    have HB1 := Held.mk hb1
    have HK1 := Held.mk hk1
    clear hb1 hk1
    go_wp2
    go_ret
    rw [HM.out]
    have h2 := H.out.keep HK1.out (fun k hk e => HW.out (e ▸ hk))
    exact ⟨rfl, ⟨p, by rw [HCo.out]; exact HB1.out, ⟨h2.rd, h2.cap, h2.len, h2.byt, h2.pos, h2.xs, HFt.out⟩⟩, HK1.out⟩
end Wire
end Go.Proofs.YthkhemcbkcoliaaDoor
