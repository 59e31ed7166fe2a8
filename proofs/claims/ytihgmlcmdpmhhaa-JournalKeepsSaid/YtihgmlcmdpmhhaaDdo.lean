/- A disk's operations: walked. -/
import Derived.Test.YtihgmlcmdpmhhaaDwr
namespace Go.Proofs.Ytihgmlcmdpmhhaa
set_option linter.unusedVariables false
set_option linter.unusedSimpArgs false
namespace Jrn
open Go.RowKit Mem Apn
/-- Behind an operation: does the power fail in it? -/
def doesS (s : DS) : DS × Bool :=
  if s.inn = 0 then (s, false) else if 1 < s.inn then (⟨s.B, s.D, s.least, s.dead, s.failed, s.inn - 1, s.keep⟩, false) else (failS ⟨s.B, s.D, s.least, s.dead, s.failed, 0, s.keep⟩ s.keep, true)
def deadV (what : ByteArray) : Value := .iface 71 (.agg #[.string what, .int .i64 23])
def errW (what : ByteArray) : Bool → Value
  | true => deadV what
  | false => .nilIface
theorem Nw.trans {F : Nat → Prop} {w w1 w2 : World} (h1 : w.heap.size ≤ w1.heap.size) (h2 : w1.heap.size ≤ w2.heap.size) : ∀ j, Nw (Nw F w w1) w1 w2 j → Nw F w w2 j := fun j h => by
  rcases h with (h | ⟨h3, h4⟩) | ⟨h3, h4⟩
  · exact .inl h
  · exact .inr ⟨h3, by omega⟩
  · exact .inr ⟨by omega, h4⟩
set_option maxHeartbeats 4000000 in
set_option maxRecDepth 100000 in
theorem does_write (bx bz : Nat) (F : Nat → Prop) (P : Nat) (s : DS) (what : ByteArray) (w : World)
    (hop : Calls Try.prog 44 #[.pointer (some ⟨bx, 0, none⟩), .pointer (some ⟨bz, 0, none⟩)] w fun e w' => e = .returned (.tuple #[]) ∧ Dk w' (Nw F w w') P s ∧ Keep F w w') (hs : s.Good) (hF : ∀ k, F k → k < w.heap.size) :
    Calls Try.prog 41 #[.pointer (some ⟨P, 0, none⟩), .string what, .func (.func 44) #[] #[.pointer (some ⟨bx, 0, none⟩), .pointer (some ⟨bz, 0, none⟩)]] w fun e w' => e = .returned (errW what (doesS s).2) ∧ Dk w' (Nw F w w') P (doesS s).1 ∧ Keep F w w' := by
  have HOp := Held.mk hop
  clear hop
  go_enter Try.func41, Try.ntmps41
  go_wp2_with fail
  refine HOp.out.mono ?_
  rintro e w1 ⟨rfl, hD1, hK1⟩
  have HD1 := Held.mk hD1
  have HK1 := Held.mk hK1
  obtain ⟨v1, v2, armed, inn, h1, h2, h3, h4, h5, h6, h7⟩ := hD1.ex
  have p5 := h1.cell 5
  have p6 := h1.cell 6
  have p7 := h1.cell 7
  have r6 := h1.frozen 6
  have HB := Held.mk h1
  have H2 := Held.mk h2
  have H3 := Held.mk h3
  have H4 := Held.mk h4
  have H67 := Held.mk (And.intro h6 h7)
  have HPF := Held.mk hD1.pF
  have hib := hs.inn
  clear hD1 hK1 h1 h2 h3 h4 h6 h7 HOp
  rcases h5 with ⟨rfl, rfl, hi1⟩ | ⟨rfl, hi0⟩
  · by_cases h2i : 1 < s.inn
    · have e1 : doesS s = (⟨s.B, s.D, s.least, s.dead, s.failed, s.inn - 1, s.keep⟩, false) := by unfold doesS; rw [if_neg (by omega), if_pos h2i]
      have i1 : decide (0 < (s.inn : Int) - 1) = true := decide_eq_true (by omega)
      have hw : wrap64 ((s.inn : Int) - 1) = (s.inn : Int) - 1 := IntWalk.wrap64_in _ ⟨by omega, by omega⟩
      go_wp2_with fail
      go_ret
      rw [e1]
      have hk := kp (P := P) (i := 6) (w := w1) (.int .i64 ((s.inn : Int) - 1))
      have ei : ((s.inn - 1 : Nat) : Int) = (s.inn : Int) - 1 := by omega
      refine ⟨rfl, dk_of (s' := ⟨s.B, s.D, s.least, s.dead, s.failed, s.inn - 1, s.keep⟩) (armed := true) (inn := (s.inn : Int) - 1) (F := Nw F w (w1.setCell ⟨P, 6, none⟩ (.int .i64 ((s.inn : Int) - 1)))) HB.out H2.out H3.out H4.out hk (by have := HB.out.set_ 6 (.int .i64 ((s.inn : Int) - 1)); simpa using this) (.inl ⟨rfl, ei.symm, by simp only; omega⟩) (fun j hj => (H67.out.1 j hj).imp id fun h => ⟨h.1, by simpa using h.2⟩) (fun j hj => (H67.out.2 j hj).imp id fun h => ⟨h.1, by simpa using h.2⟩) (HPF.out.imp id fun h => ⟨h.1, by simpa using h.2⟩), ?_⟩
      exact HK1.out.then hk (fun j hj e => by subst e; rcases HPF.out with h | h; exact h; exact absurd h.1 (by omega))
    · have e1 : doesS s = (failS ⟨s.B, s.D, s.least, s.dead, s.failed, 0, s.keep⟩ s.keep, true) := by unfold doesS; rw [if_neg (by omega), if_neg h2i]
      have hone : s.inn = 1 := by omega
      rw [hone] at p6
      have hk := kp (P := P) (i := 6) (w := w1) (.int .i64 0)
      have hb2 := HB.out.set_ 6 (.int .i64 0)
      have HD2 : Held (Dk0 (w1.setCell ⟨P, 6, none⟩ (.int .i64 0)) (Nw F w w1) P ⟨s.B, s.D, s.least, s.dead, s.failed, 0, s.keep⟩) := ⟨⟨⟨v1, v2, true, 0, by simpa using hb2, hk.own H2.out (fun j hj e => by rw [e] at hj; exact own_blk_ne H2.out HB.out (by decide) hj), hk.own H3.out (fun j hj e => by rw [e] at hj; exact own_blk_ne H3.out HB.out (by decide) hj), H4.out, trivial, H67.out.1, H67.out.2⟩, HPF.out⟩⟩
      have HK2 : Held (Keep F w (w1.setCell ⟨P, 6, none⟩ (.int .i64 0))) := ⟨HK1.out.then hk (fun j hj e => by
        subst e
        rcases HPF.out with h | h
        · exact h
        · exact absurd h.1 (by omega))⟩
      have HFl := Held.mk (fail_any (Nw F w w1) P ⟨s.B, s.D, s.least, s.dead, s.failed, 0, s.keep⟩ s.keep (w1.setCell ⟨P, 6, none⟩ (.int .i64 0)) HD2.out ⟨hs.least, hs.lb, hs.ld, hs.failed, by simp, hs.keep⟩)
      have hP7 : (w1.setCell ⟨P, 6, none⟩ (.int .i64 0)).cell? ⟨P, 7, none⟩ = some (.int .i64 s.keep) := hb2.cell 7
      clear hk hb2
      go_wp2_with fail
      refine HFl.out.mono ?_
      rintro e w3 ⟨rfl, hD3, hK3⟩
      have HD3 := Held.mk hD3
      have HK3 : Held (Keep F w w3) := ⟨HK2.out.then hK3 (fun j hj e => by
        subst e
        rcases HPF.out with h | h
        · exact h
        · exact absurd h.1 (by omega))⟩
      have hs3 := hK3.size
      clear hD3 hK3 HFl
      go_wp2_with fail
      refine (dead_any what w3).mono ?_
      rintro e w4 ⟨rfl, rfl⟩
      go_wp2_with fail
      go_ret
      rw [e1]
      exact ⟨rfl, HD3.out.mono (fun j h => Nw.trans (w1 := w1) HK1.out.size (by simpa using hs3) j (h.imp id fun h => ⟨by simpa using h.1, h.2⟩)), HK3.out⟩
  · have e1 : doesS s = (s, false) := by unfold doesS; rw [if_pos hi0]
    go_wp2_with fail
    go_ret
    rw [e1]
    exact ⟨rfl, HD1.out, HK1.out⟩
set_option maxHeartbeats 4000000 in
set_option maxRecDepth 100000 in
theorem does_cut (bx bz : Nat) (F : Nat → Prop) (P : Nat) (s : DS) (what : ByteArray) (w : World)
    (hop : Calls Try.prog 42 #[.pointer (some ⟨bx, 0, none⟩), .pointer (some ⟨bz, 0, none⟩)] w fun e w' => e = .returned (.tuple #[]) ∧ Dk w' (Nw F w w') P s ∧ Keep F w w') (hs : s.Good) (hF : ∀ k, F k → k < w.heap.size) :
    Calls Try.prog 41 #[.pointer (some ⟨P, 0, none⟩), .string what, .func (.func 42) #[] #[.pointer (some ⟨bx, 0, none⟩), .pointer (some ⟨bz, 0, none⟩)]] w fun e w' => e = .returned (errW what (doesS s).2) ∧ Dk w' (Nw F w w') P (doesS s).1 ∧ Keep F w w' := by
  have HOp := Held.mk hop
  clear hop
  go_enter Try.func41, Try.ntmps41
  go_wp2_with fail
  refine HOp.out.mono ?_
  rintro e w1 ⟨rfl, hD1, hK1⟩
  have HD1 := Held.mk hD1
  have HK1 := Held.mk hK1
  obtain ⟨v1, v2, armed, inn, h1, h2, h3, h4, h5, h6, h7⟩ := hD1.ex
  have p5 := h1.cell 5
  have p6 := h1.cell 6
  have p7 := h1.cell 7
  have r6 := h1.frozen 6
  have HB := Held.mk h1
  have H2 := Held.mk h2
  have H3 := Held.mk h3
  have H4 := Held.mk h4
  have H67 := Held.mk (And.intro h6 h7)
  have HPF := Held.mk hD1.pF
  have hib := hs.inn
  clear hD1 hK1 h1 h2 h3 h4 h6 h7 HOp
  rcases h5 with ⟨rfl, rfl, hi1⟩ | ⟨rfl, hi0⟩
  · by_cases h2i : 1 < s.inn
    · have e1 : doesS s = (⟨s.B, s.D, s.least, s.dead, s.failed, s.inn - 1, s.keep⟩, false) := by unfold doesS; rw [if_neg (by omega), if_pos h2i]
      have i1 : decide (0 < (s.inn : Int) - 1) = true := decide_eq_true (by omega)
      have hw : wrap64 ((s.inn : Int) - 1) = (s.inn : Int) - 1 := IntWalk.wrap64_in _ ⟨by omega, by omega⟩
      go_wp2_with fail
      go_ret
      rw [e1]
      have hk := kp (P := P) (i := 6) (w := w1) (.int .i64 ((s.inn : Int) - 1))
      have ei : ((s.inn - 1 : Nat) : Int) = (s.inn : Int) - 1 := by omega
      refine ⟨rfl, dk_of (s' := ⟨s.B, s.D, s.least, s.dead, s.failed, s.inn - 1, s.keep⟩) (armed := true) (inn := (s.inn : Int) - 1) (F := Nw F w (w1.setCell ⟨P, 6, none⟩ (.int .i64 ((s.inn : Int) - 1)))) HB.out H2.out H3.out H4.out hk (by have := HB.out.set_ 6 (.int .i64 ((s.inn : Int) - 1)); simpa using this) (.inl ⟨rfl, ei.symm, by simp only; omega⟩) (fun j hj => (H67.out.1 j hj).imp id fun h => ⟨h.1, by simpa using h.2⟩) (fun j hj => (H67.out.2 j hj).imp id fun h => ⟨h.1, by simpa using h.2⟩) (HPF.out.imp id fun h => ⟨h.1, by simpa using h.2⟩), ?_⟩
      exact HK1.out.then hk (fun j hj e => by subst e; rcases HPF.out with h | h; exact h; exact absurd h.1 (by omega))
    · have e1 : doesS s = (failS ⟨s.B, s.D, s.least, s.dead, s.failed, 0, s.keep⟩ s.keep, true) := by unfold doesS; rw [if_neg (by omega), if_neg h2i]
      have hone : s.inn = 1 := by omega
      rw [hone] at p6
      have hk := kp (P := P) (i := 6) (w := w1) (.int .i64 0)
      have hb2 := HB.out.set_ 6 (.int .i64 0)
      have HD2 : Held (Dk0 (w1.setCell ⟨P, 6, none⟩ (.int .i64 0)) (Nw F w w1) P ⟨s.B, s.D, s.least, s.dead, s.failed, 0, s.keep⟩) := ⟨⟨⟨v1, v2, true, 0, by simpa using hb2, hk.own H2.out (fun j hj e => by rw [e] at hj; exact own_blk_ne H2.out HB.out (by decide) hj), hk.own H3.out (fun j hj e => by rw [e] at hj; exact own_blk_ne H3.out HB.out (by decide) hj), H4.out, trivial, H67.out.1, H67.out.2⟩, HPF.out⟩⟩
      have HK2 : Held (Keep F w (w1.setCell ⟨P, 6, none⟩ (.int .i64 0))) := ⟨HK1.out.then hk (fun j hj e => by
        subst e
        rcases HPF.out with h | h
        · exact h
        · exact absurd h.1 (by omega))⟩
      have HFl := Held.mk (fail_any (Nw F w w1) P ⟨s.B, s.D, s.least, s.dead, s.failed, 0, s.keep⟩ s.keep (w1.setCell ⟨P, 6, none⟩ (.int .i64 0)) HD2.out ⟨hs.least, hs.lb, hs.ld, hs.failed, by simp, hs.keep⟩)
      have hP7 : (w1.setCell ⟨P, 6, none⟩ (.int .i64 0)).cell? ⟨P, 7, none⟩ = some (.int .i64 s.keep) := hb2.cell 7
      clear hk hb2
      go_wp2_with fail
      refine HFl.out.mono ?_
      rintro e w3 ⟨rfl, hD3, hK3⟩
      have HD3 := Held.mk hD3
      have HK3 : Held (Keep F w w3) := ⟨HK2.out.then hK3 (fun j hj e => by
        subst e
        rcases HPF.out with h | h
        · exact h
        · exact absurd h.1 (by omega))⟩
      have hs3 := hK3.size
      clear hD3 hK3 HFl
      go_wp2_with fail
      refine (dead_any what w3).mono ?_
      rintro e w4 ⟨rfl, rfl⟩
      go_wp2_with fail
      go_ret
      rw [e1]
      exact ⟨rfl, HD3.out.mono (fun j h => Nw.trans (w1 := w1) HK1.out.size (by simpa using hs3) j (h.imp id fun h => ⟨by simpa using h.1, h.2⟩)), HK3.out⟩
  · have e1 : doesS s = (s, false) := by unfold doesS; rw [if_pos hi0]
    go_wp2_with fail
    go_ret
    rw [e1]
    exact ⟨rfl, HD1.out, HK1.out⟩
set_option maxHeartbeats 4000000 in
set_option maxRecDepth 100000 in
theorem does_sync (F : Nat → Prop) (P : Nat) (s : DS) (what : ByteArray) (w : World)
    (hop : Calls Try.prog 43 #[.pointer (some ⟨P, 0, none⟩)] w fun e w' => e = .returned (.tuple #[]) ∧ Dk w' (Nw F w w') P s ∧ Keep F w w') (hs : s.Good) (hF : ∀ k, F k → k < w.heap.size) :
    Calls Try.prog 41 #[.pointer (some ⟨P, 0, none⟩), .string what, .func (.func 43) #[.pointer (some ⟨P, 0, none⟩)] #[]] w fun e w' => e = .returned (errW what (doesS s).2) ∧ Dk w' (Nw F w w') P (doesS s).1 ∧ Keep F w w' := by
  have HOp := Held.mk hop
  clear hop
  go_enter Try.func41, Try.ntmps41
  go_wp2_with fail
  refine HOp.out.mono ?_
  rintro e w1 ⟨rfl, hD1, hK1⟩
  have HD1 := Held.mk hD1
  have HK1 := Held.mk hK1
  obtain ⟨v1, v2, armed, inn, h1, h2, h3, h4, h5, h6, h7⟩ := hD1.ex
  have p5 := h1.cell 5
  have p6 := h1.cell 6
  have p7 := h1.cell 7
  have r6 := h1.frozen 6
  have HB := Held.mk h1
  have H2 := Held.mk h2
  have H3 := Held.mk h3
  have H4 := Held.mk h4
  have H67 := Held.mk (And.intro h6 h7)
  have HPF := Held.mk hD1.pF
  have hib := hs.inn
  clear hD1 hK1 h1 h2 h3 h4 h6 h7 HOp
  rcases h5 with ⟨rfl, rfl, hi1⟩ | ⟨rfl, hi0⟩
  · by_cases h2i : 1 < s.inn
    · have e1 : doesS s = (⟨s.B, s.D, s.least, s.dead, s.failed, s.inn - 1, s.keep⟩, false) := by unfold doesS; rw [if_neg (by omega), if_pos h2i]
      have i1 : decide (0 < (s.inn : Int) - 1) = true := decide_eq_true (by omega)
      have hw : wrap64 ((s.inn : Int) - 1) = (s.inn : Int) - 1 := IntWalk.wrap64_in _ ⟨by omega, by omega⟩
      go_wp2_with fail
      go_ret
      rw [e1]
      have hk := kp (P := P) (i := 6) (w := w1) (.int .i64 ((s.inn : Int) - 1))
      have ei : ((s.inn - 1 : Nat) : Int) = (s.inn : Int) - 1 := by omega
      refine ⟨rfl, dk_of (s' := ⟨s.B, s.D, s.least, s.dead, s.failed, s.inn - 1, s.keep⟩) (armed := true) (inn := (s.inn : Int) - 1) (F := Nw F w (w1.setCell ⟨P, 6, none⟩ (.int .i64 ((s.inn : Int) - 1)))) HB.out H2.out H3.out H4.out hk (by have := HB.out.set_ 6 (.int .i64 ((s.inn : Int) - 1)); simpa using this) (.inl ⟨rfl, ei.symm, by simp only; omega⟩) (fun j hj => (H67.out.1 j hj).imp id fun h => ⟨h.1, by simpa using h.2⟩) (fun j hj => (H67.out.2 j hj).imp id fun h => ⟨h.1, by simpa using h.2⟩) (HPF.out.imp id fun h => ⟨h.1, by simpa using h.2⟩), ?_⟩
      exact HK1.out.then hk (fun j hj e => by subst e; rcases HPF.out with h | h; exact h; exact absurd h.1 (by omega))
    · have e1 : doesS s = (failS ⟨s.B, s.D, s.least, s.dead, s.failed, 0, s.keep⟩ s.keep, true) := by unfold doesS; rw [if_neg (by omega), if_neg h2i]
      have hone : s.inn = 1 := by omega
      rw [hone] at p6
      have hk := kp (P := P) (i := 6) (w := w1) (.int .i64 0)
      have hb2 := HB.out.set_ 6 (.int .i64 0)
      have HD2 : Held (Dk0 (w1.setCell ⟨P, 6, none⟩ (.int .i64 0)) (Nw F w w1) P ⟨s.B, s.D, s.least, s.dead, s.failed, 0, s.keep⟩) := ⟨⟨⟨v1, v2, true, 0, by simpa using hb2, hk.own H2.out (fun j hj e => by rw [e] at hj; exact own_blk_ne H2.out HB.out (by decide) hj), hk.own H3.out (fun j hj e => by rw [e] at hj; exact own_blk_ne H3.out HB.out (by decide) hj), H4.out, trivial, H67.out.1, H67.out.2⟩, HPF.out⟩⟩
      have HK2 : Held (Keep F w (w1.setCell ⟨P, 6, none⟩ (.int .i64 0))) := ⟨HK1.out.then hk (fun j hj e => by
        subst e
        rcases HPF.out with h | h
        · exact h
        · exact absurd h.1 (by omega))⟩
      have HFl := Held.mk (fail_any (Nw F w w1) P ⟨s.B, s.D, s.least, s.dead, s.failed, 0, s.keep⟩ s.keep (w1.setCell ⟨P, 6, none⟩ (.int .i64 0)) HD2.out ⟨hs.least, hs.lb, hs.ld, hs.failed, by simp, hs.keep⟩)
      have hP7 : (w1.setCell ⟨P, 6, none⟩ (.int .i64 0)).cell? ⟨P, 7, none⟩ = some (.int .i64 s.keep) := hb2.cell 7
      clear hk hb2
      go_wp2_with fail
      refine HFl.out.mono ?_
      rintro e w3 ⟨rfl, hD3, hK3⟩
      have HD3 := Held.mk hD3
      have HK3 : Held (Keep F w w3) := ⟨HK2.out.then hK3 (fun j hj e => by
        subst e
        rcases HPF.out with h | h
        · exact h
        · exact absurd h.1 (by omega))⟩
      have hs3 := hK3.size
      clear hD3 hK3 HFl
      go_wp2_with fail
      refine (dead_any what w3).mono ?_
      rintro e w4 ⟨rfl, rfl⟩
      go_wp2_with fail
      go_ret
      rw [e1]
      exact ⟨rfl, HD3.out.mono (fun j h => Nw.trans (w1 := w1) HK1.out.size (by simpa using hs3) j (h.imp id fun h => ⟨by simpa using h.1, h.2⟩)), HK3.out⟩
  · have e1 : doesS s = (s, false) := by unfold doesS; rw [if_pos hi0]
    go_wp2_with fail
    go_ret
    rw [e1]
    exact ⟨rfl, HD1.out, HK1.out⟩
end Jrn
end Go.Proofs.Ytihgmlcmdpmhhaa
