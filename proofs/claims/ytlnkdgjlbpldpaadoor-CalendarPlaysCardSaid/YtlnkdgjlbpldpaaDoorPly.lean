/- CalendarPlays: the walk. -/
import Derived.Test.YtlnkdgjlbpldpaaDoorHld
import Derived.Test.YtlnkdgjlbpldpaaDoorShown2
import Derived.Test.YtlnkdgjlbpldpaaDoorOpen
namespace Go.Proofs.YtlnkdgjlbpldpaaDoor
set_option linter.unusedVariables false
set_option linter.unusedSimpArgs false
namespace Cal
open Go.RowKit Mem Go.Proofs.YtlnkdgjlbpldpaaDoorW.PrintLast Kit

/-- One question. -/
structure AskR where (on kd a b : Int)
def AskR.cells (p : AskR) : List Value := [.int .i64 p.on, .int .i64 p.kd, .int .i64 p.a, .int .i64 p.b]
structure AskR.Good (p : AskR) : Prop where
  on : -9223372036854775808 ≤ p.on ∧ p.on ≤ 9223372036854775807
  kd : -9223372036854775808 ≤ p.kd ∧ p.kd ≤ 9223372036854775807
  a : -9223372036854775808 ≤ p.a ∧ p.a ≤ 9223372036854775807
  b : -9223372036854775808 ≤ p.b ∧ p.b ≤ 9223372036854775807
theorem ask_len (p : AskR) : p.cells.length = 4 := rfl
/-- A row of questions that is read. -/
def RdA (w : World) (ok : Nat → Prop) (A : Option Addr) (ps : List AskR) : Prop := RdV w ok 4 A ps.length (ps.flatMap AskR.cells)
theorem RdA.at_ {w : World} {ok : Nat → Prop} {A : Option Addr} {ps : List AskR} (h : RdA w ok A ps) {k : Nat} (hk : k < ps.length) : ∃ ad, A = some ad ∧ ok ad.block ∧
    w.cell? (ad.add (k * 4)) = some (.int .i64 ps[k].on) ∧ w.cell? ⟨(ad.add (k * 4)).block, (ad.add (k * 4)).off + 1, none⟩ = some (.int .i64 ps[k].kd) ∧
    w.cell? ⟨(ad.add (k * 4)).block, (ad.add (k * 4)).off + 2, none⟩ = some (.int .i64 ps[k].a) ∧ w.cell? ⟨(ad.add (k * 4)).block, (ad.add (k * 4)).off + 3, none⟩ = some (.int .i64 ps[k].b) := by
  obtain ⟨ad, e, hb, hc⟩ := h.2 (by omega)
  refine ⟨ad, e, hb, ?_, ?_, ?_, ?_⟩
  · exact hc _ _ (by rw [← Nat.add_zero (k * 4), Law.flat_get AskR.cells 4 ask_len ps k 0 hk (by omega)]; rfl)
  · have := hc (k * 4 + 1) _ (by rw [Law.flat_get AskR.cells 4 ask_len ps k 1 hk (by omega)]; rfl)
    rw [← add_of_add] at this
    exact this
  · have := hc (k * 4 + 2) _ (by rw [Law.flat_get AskR.cells 4 ask_len ps k 2 hk (by omega)]; rfl)
    rw [← add_of_add] at this
    exact this
  · have := hc (k * 4 + 3) _ (by rw [Law.flat_get AskR.cells 4 ask_len ps k 3 hk (by omega)]; rfl)
    rw [← add_of_add] at this
    exact this
set_option maxHeartbeats 16000000 in
set_option maxRecDepth 1000000 in
theorem plays_any (p0 p1 p2 p3 p4 p5 p6 : Bool) (Ap : Option Addr) (np cp : Nat) (xsp : List Int) (q0 q1 q2 q3 q4 q5 q6 : Bool) (Aq : Option Addr) (nq cq : Nat) (xsq : List Int) (A : Option Addr) (n c : Nat) (ps : List AskR) (w : World) (hrp : Lst w Ap np xsp) (hnp : np ≤ 17592186043904) (hwp : ∀ x ∈ xsp, (Lit.int .i64 x).wf = true) (hrq : Lst w Aq nq xsq) (hnq : nq ≤ 17592186043904) (hwq : ∀ x ∈ xsq, (Lit.int .i64 x).wf = true) (hps : ps.length = n) (hr : RdA w (fun k => k < w.heap.size) A ps) (hgd : ∀ p ∈ ps, p.Good) (hl : n ≤ 140737488351232) (hg : Err.Laid w) :
    Calls Tryd.prog 5 #[.agg #[.bool p0, .bool p1, .bool p2, .bool p3, .bool p4, .bool p5, .bool p6, .slice Ap np cp], .agg #[.bool q0, .bool q1, .bool q2, .bool q3, .bool q4, .bool q5, .bool q6, .slice Aq nq cq], .slice A n c] w fun e w' => e = .returned (.bool true) ∧ Below w.heap.size w w' := by
  have Hps := Held.mk hps
  have Hgd := Held.mk hgd
  have HB : Held (Below w.heap.size w ((w.alloc (.cells #[.bool p0, .bool p1, .bool p2, .bool p3, .bool p4, .bool p5, .bool p6, .slice Ap np cp] 52)).alloc (.cells #[.bool q0, .bool q1, .bool q2, .bool q3, .bool q4, .bool q5, .bool q6, .slice Aq nq cq] 52))) := ⟨((Below.refl _ _).alloc (Nat.le_refl _) _).alloc (by simp) _⟩
  have HP := Held.mk ((Blk.new w 52 #[.bool p0, .bool p1, .bool p2, .bool p3, .bool p4, .bool p5, .bool p6, .slice Ap np cp]).alloc (.cells #[.bool q0, .bool q1, .bool q2, .bool q3, .bool q4, .bool q5, .bool q6, .slice Aq nq cq] 52))
  have HQ' := Blk.new (w.alloc (.cells #[.bool p0, .bool p1, .bool p2, .bool p3, .bool p4, .bool p5, .bool p6, .slice Ap np cp] 52)) 52 #[.bool q0, .bool q1, .bool q2, .bool q3, .bool q4, .bool q5, .bool q6, .slice Aq nq cq]
  simp only [World.size_alloc] at HQ'
  have HQ := Held.mk HQ'
  have HLp := Held.mk (hrp.below HB.out)
  have HLq := Held.mk (hrq.below HB.out)
  have HG := Held.mk (hg.below HB.out)
  have Hwp := Held.mk hwp
  have Hwq := Held.mk hwq
  have HR : Held (RdA ((w.alloc (.cells #[.bool p0, .bool p1, .bool p2, .bool p3, .bool p4, .bool p5, .bool p6, .slice Ap np cp] 52)).alloc (.cells #[.bool q0, .bool q1, .bool q2, .bool q3, .bool q4, .bool q5, .bool q6, .slice Aq nq cq] 52)) (fun k => k < ((w.alloc (.cells #[.bool p0, .bool p1, .bool p2, .bool p3, .bool p4, .bool p5, .bool p6, .slice Ap np cp] 52)).alloc (.cells #[.bool q0, .bool q1, .bool q2, .bool q3, .bool q4, .bool q5, .bool q6, .slice Aq nq cq] 52)).heap.size) A ps) := ⟨(RdV.keep hr (Keep.of_below HB.out (fun k => ¬ k < w.heap.size)) (fun k hk h => h hk)).mono (fun k hk => Nat.lt_of_lt_of_le hk HB.out.size)⟩
  clear hrp hrq hwp hwq hr hgd hg HQ' hps
  generalize hW0 : w.heap.size = W0 at *
  have HW0 := Held.mk hW0
  clear hW0
  go_enter Tryd.func5, Tryd.ntmps5
  go_wp2_with fail
  generalize (w.alloc (.cells #[.bool p0, .bool p1, .bool p2, .bool p3, .bool p4, .bool p5, .bool p6, .slice Ap np cp] 52)).alloc (.cells #[.bool q0, .bool q1, .bool q2, .bool q3, .bool q4, .bool q5, .bool q6, .slice Aq nq cq] 52) = w1 at *
  rw [HW0.out]
  have k0 := HP.out.cell 0
  have k1 := HP.out.cell 1
  have k2 := HP.out.cell 2
  have k3 := HP.out.cell 3
  have k4 := HP.out.cell 4
  have k5 := HP.out.cell 5
  have k6 := HP.out.cell 6
  have k7 := HP.out.cell 7
  have j0 := HQ.out.cell 0
  have j1 := HQ.out.cell 1
  have j2 := HQ.out.cell 2
  have j3 := HQ.out.cell 3
  have j4 := HQ.out.cell 4
  have j5 := HQ.out.cell 5
  have j6 := HQ.out.cell 6
  have j7 := HQ.out.cell 7
  simp at k0 k1 k2 k3 k4 k5 k6 k7 j0 j1 j2 j3 j4 j5 j6 j7
  go_wp2_with fail
  refine (held_any p0 p1 p2 p3 p4 p5 p6 Ap np cp xsp w1 HLp.out hnp Hwp.out).mono ?_
  rintro e w2 ⟨g1, b1, rfl, hc1, hb⟩
  have HB2 : Held (Below W0 w w2) := ⟨HB.out.trans (hb.mono (by have := HB.out.size; rw [HW0.out] at this; exact this))⟩
  have HP2 := Held.mk (HP.out.keep (Keep.of_below hb (fun _ => False)) (fun h => h))
  have HQ2 := Held.mk (HQ.out.keep (Keep.of_below hb (fun _ => False)) (fun h => h))
  have HLp2 := Held.mk (HLp.out.below hb)
  have HLq2 := Held.mk (HLq.out.below hb)
  have HG2 := Held.mk (HG.out.below hb)
  have HR2 : Held (RdA w2 (fun k => k < w2.heap.size) A ps) := ⟨(RdV.keep HR.out (Keep.of_below hb (fun k => ¬ k < w1.heap.size)) (fun k hk h => h hk)).mono (fun k hk => Nat.lt_of_lt_of_le hk hb.size)⟩
  have HC2 := Held.mk hc1
  clear hb hc1 HB HP HQ HLp HLq HG HR k0 k1 k2 k3 k4 k5 k6 k7 j0 j1 j2 j3 j4 j5 j6 j7
  have hX3 : Below w2.heap.size w2 (w2.alloc (.cells #[.bool p0, .bool p1, .bool p2, .bool p3, .bool p4, .bool p5, .bool p6, .slice Ap np cp] 55)) := (Below.refl _ _).alloc (Nat.le_refl _) _
  have HE3 := Held.mk (Blk.new w2 55 #[.bool p0, .bool p1, .bool p2, .bool p3, .bool p4, .bool p5, .bool p6, .slice Ap np cp])
  have HJ3 : Held (∀ v k, w2.cell? ⟨W0 + 1, k, none⟩ = some v → (w2.alloc (.cells #[.bool p0, .bool p1, .bool p2, .bool p3, .bool p4, .bool p5, .bool p6, .slice Ap np cp] 55)).cell? ⟨W0 + 1, k, none⟩ = some v) := ⟨fun v k h => (hX3.cell (p := ⟨W0 + 1, k, none⟩) HQ2.out.lt).trans h⟩
  have HB3 : Held (Below W0 w (w2.alloc (.cells #[.bool p0, .bool p1, .bool p2, .bool p3, .bool p4, .bool p5, .bool p6, .slice Ap np cp] 55))) := ⟨HB2.out.trans (hX3.mono (by have := HB2.out.size; rw [HW0.out] at this; exact this))⟩
  have HQ3 := Held.mk (HQ2.out.keep (Keep.of_below hX3 (fun _ => False)) (fun h => h))
  have HLp3 := Held.mk (HLp2.out.below hX3)
  have HLq3 := Held.mk (HLq2.out.below hX3)
  have HG3 := Held.mk (HG2.out.below hX3)
  have HR3 : Held (RdA (w2.alloc (.cells #[.bool p0, .bool p1, .bool p2, .bool p3, .bool p4, .bool p5, .bool p6, .slice Ap np cp] 55)) (fun k => k < (w2.alloc (.cells #[.bool p0, .bool p1, .bool p2, .bool p3, .bool p4, .bool p5, .bool p6, .slice Ap np cp] 55)).heap.size) A ps) := ⟨(RdV.keep HR2.out (Keep.of_below hX3 (fun k => ¬ k < w2.heap.size)) (fun k hk h => h hk)).mono (fun k hk => Nat.lt_of_lt_of_le hk hX3.size)⟩
  have HC3 := Held.mk (HC2.out.below hX3)
  have j0 : (w2.alloc (.cells #[.bool p0, .bool p1, .bool p2, .bool p3, .bool p4, .bool p5, .bool p6, .slice Ap np cp] 55)).cell? ⟨W0 + 1, 0, none⟩ = some (.bool q0) := HQ3.out.cell 0
  have j1 : (w2.alloc (.cells #[.bool p0, .bool p1, .bool p2, .bool p3, .bool p4, .bool p5, .bool p6, .slice Ap np cp] 55)).cell? ⟨W0 + 1, 1, none⟩ = some (.bool q1) := HQ3.out.cell 1
  have j2 : (w2.alloc (.cells #[.bool p0, .bool p1, .bool p2, .bool p3, .bool p4, .bool p5, .bool p6, .slice Ap np cp] 55)).cell? ⟨W0 + 1, 2, none⟩ = some (.bool q2) := HQ3.out.cell 2
  have j3 : (w2.alloc (.cells #[.bool p0, .bool p1, .bool p2, .bool p3, .bool p4, .bool p5, .bool p6, .slice Ap np cp] 55)).cell? ⟨W0 + 1, 3, none⟩ = some (.bool q3) := HQ3.out.cell 3
  have j4 : (w2.alloc (.cells #[.bool p0, .bool p1, .bool p2, .bool p3, .bool p4, .bool p5, .bool p6, .slice Ap np cp] 55)).cell? ⟨W0 + 1, 4, none⟩ = some (.bool q4) := HQ3.out.cell 4
  have j5 : (w2.alloc (.cells #[.bool p0, .bool p1, .bool p2, .bool p3, .bool p4, .bool p5, .bool p6, .slice Ap np cp] 55)).cell? ⟨W0 + 1, 5, none⟩ = some (.bool q5) := HQ3.out.cell 5
  have j6 : (w2.alloc (.cells #[.bool p0, .bool p1, .bool p2, .bool p3, .bool p4, .bool p5, .bool p6, .slice Ap np cp] 55)).cell? ⟨W0 + 1, 6, none⟩ = some (.bool q6) := HQ3.out.cell 6
  have j7 : (w2.alloc (.cells #[.bool p0, .bool p1, .bool p2, .bool p3, .bool p4, .bool p5, .bool p6, .slice Ap np cp] 55)).cell? ⟨W0 + 1, 7, none⟩ = some (.slice Aq nq cq) := HQ3.out.cell 7
  clear hX3
  go_wp2_with fail
  generalize hg3 : w2.heap.size = r1 at *
  generalize w2.alloc (.cells #[.bool p0, .bool p1, .bool p2, .bool p3, .bool p4, .bool p5, .bool p6, .slice Ap np cp] 55) = w3 at *
  refine (held_any q0 q1 q2 q3 q4 q5 q6 Aq nq cq xsq w3 HLq3.out hnq Hwq.out).mono ?_
  rintro e w4 ⟨g2, b2, rfl, hc2, hb⟩
  have HB4 : Held (Below W0 w w4) := ⟨HB3.out.trans (hb.mono (by have := HB3.out.size; rw [HW0.out] at this; exact this))⟩
  have HE4 := Held.mk (HE3.out.keep (Keep.of_below hb (fun _ => False)) (fun h => h))
  have HLp4 := Held.mk (HLp3.out.below hb)
  have HLq4 := Held.mk (HLq3.out.below hb)
  have HG4 := Held.mk (HG3.out.below hb)
  have HR4 : Held (RdA w4 (fun k => k < w4.heap.size) A ps) := ⟨(RdV.keep HR3.out (Keep.of_below hb (fun k => ¬ k < w3.heap.size)) (fun k hk h => h hk)).mono (fun k hk => Nat.lt_of_lt_of_le hk hb.size)⟩
  have HC4 := Held.mk (HC3.out.below hb)
  have HD4 := Held.mk hc2
  clear hb hc2 HB2 HP2 HQ2 HLp2 HLq2 HG2 HR2 HC2 HB3 HQ3 HLp3 HLq3 HG3 HR3 HC3 HE3 HJ3 j0 j1 j2 j3 j4 j5 j6 j7 hg3
  have hX5 : Below w4.heap.size w4 (w4.alloc (.cells #[.bool q0, .bool q1, .bool q2, .bool q3, .bool q4, .bool q5, .bool q6, .slice Aq nq cq] 55)) := (Below.refl _ _).alloc (Nat.le_refl _) _
  have HF5 := Held.mk (Blk.new w4 55 #[.bool q0, .bool q1, .bool q2, .bool q3, .bool q4, .bool q5, .bool q6, .slice Aq nq cq])
  have HB5 : Held (Below W0 w (w4.alloc (.cells #[.bool q0, .bool q1, .bool q2, .bool q3, .bool q4, .bool q5, .bool q6, .slice Aq nq cq] 55))) := ⟨HB4.out.trans (hX5.mono (by have := HB4.out.size; rw [HW0.out] at this; exact this))⟩
  have HE5 := Held.mk (HE4.out.keep (Keep.of_below hX5 (fun _ => False)) (fun h => h))
  have HLp5 := Held.mk (HLp4.out.below hX5)
  have HLq5 := Held.mk (HLq4.out.below hX5)
  have HG5 := Held.mk (HG4.out.below hX5)
  have HR5 : Held (RdA (w4.alloc (.cells #[.bool q0, .bool q1, .bool q2, .bool q3, .bool q4, .bool q5, .bool q6, .slice Aq nq cq] 55)) (fun k => k < (w4.alloc (.cells #[.bool q0, .bool q1, .bool q2, .bool q3, .bool q4, .bool q5, .bool q6, .slice Aq nq cq] 55)).heap.size) A ps) := ⟨(RdV.keep HR4.out (Keep.of_below hX5 (fun k => ¬ k < w4.heap.size)) (fun k hk h => h hk)).mono (fun k hk => Nat.lt_of_lt_of_le hk hX5.size)⟩
  have HC5 := Held.mk (HC4.out.below hX5)
  have HD5 := Held.mk (HD4.out.below hX5)
  clear hX5
  go_wp2_with fail
  generalize hg5 : w4.heap.size = r2 at *
  generalize w4.alloc (.cells #[.bool q0, .bool q1, .bool q2, .bool q3, .bool q4, .bool q5, .bool q6, .slice Aq nq cq] 55) = w5 at *
  refine (shown_any w5).mono ?_
  rintro e w6 ⟨rfl, hb⟩
  have HB6 : Held (Below W0 w w6) := ⟨HB5.out.trans (hb.mono (by have := HB5.out.size; rw [HW0.out] at this; exact this))⟩
  have HE6 := Held.mk (HE5.out.keep (Keep.of_below hb (fun _ => False)) (fun h => h))
  have HF6 := Held.mk (HF5.out.keep (Keep.of_below hb (fun _ => False)) (fun h => h))
  have HLp6 := Held.mk (HLp5.out.below hb)
  have HLq6 := Held.mk (HLq5.out.below hb)
  have HG6 := Held.mk (HG5.out.below hb)
  have HR6 : Held (RdA w6 (fun k => k < w6.heap.size) A ps) := ⟨(RdV.keep HR5.out (Keep.of_below hb (fun k => ¬ k < w5.heap.size)) (fun k hk h => h hk)).mono (fun k hk => Nat.lt_of_lt_of_le hk hb.size)⟩
  have HC6 := Held.mk (HC5.out.below hb)
  have HD6 := Held.mk (HD5.out.below hb)
  clear hb HB4 HE4 HLp4 HLq4 HG4 HR4 HC4 HD4 HB5 HE5 HF5 HLp5 HLq5 HG5 HR5 HC5 HD5 hg5
  go_wp2
  go_loopw [13] (fun i wr => ∃ k : Nat, i = .int .i64 k ∧ k ≤ n ∧ Held (Below w6.heap.size w6 wr)) (fun i _ => n - (intOf i).toNat)
  case atStart => exact ⟨0, rfl, Nat.zero_le _, ⟨Below.refl _ _⟩⟩
  case round =>
    obtain ⟨k, rfl, hk, Hwr⟩ := hrel
    have HBr : Held (Below W0 w wr) := ⟨HB6.out.trans (Hwr.out.mono (by have := HB6.out.size; rw [HW0.out] at this; exact this))⟩
    have HEr := Held.mk (HE6.out.keep (Keep.of_below Hwr.out (fun _ => False)) (fun h => h))
    have HFr := Held.mk (HF6.out.keep (Keep.of_below Hwr.out (fun _ => False)) (fun h => h))
    have HLpr := Held.mk (HLp6.out.below Hwr.out)
    have HLqr := Held.mk (HLq6.out.below Hwr.out)
    have HGr := Held.mk (HG6.out.below Hwr.out)
    have HRr : Held (RdA wr (fun k => k < wr.heap.size) A ps) := ⟨(RdV.keep HR6.out (Keep.of_below Hwr.out (fun k => ¬ k < w6.heap.size)) (fun k hk h => h hk)).mono (fun k hk => Nat.lt_of_lt_of_le hk Hwr.out.size)⟩
    have HCr := Held.mk (HC6.out.below Hwr.out)
    have HDr := Held.mk (HD6.out.below Hwr.out)
    by_cases hlt : k < n
    · obtain ⟨ad, rfl, hadb, hc0, hc1, hc2, hc3⟩ := HRr.out.at_ (show k < ps.length by rw [Hps.out]; exact hlt)
      have Hg := Held.mk (Hgd.out _ (List.getElem_mem (show k < ps.length by rw [Hps.out]; exact hlt)))
      generalize ps[k]'(by rw [Hps.out]; exact hlt) = pk at *
      obtain ⟨on, kd, xa, xb⟩ := pk
      simp only at hc0 hc1 hc2 hc3
      have hon := Hg.out.on
      simp only at hon
      have hX : Below wr.heap.size wr (wr.alloc (.cells #[.int .i64 on, .int .i64 kd, .int .i64 xa, .int .i64 xb] 60)) := (Below.refl _ _).alloc (Nat.le_refl _) _
      have HM := Held.mk (Blk.new wr 60 #[.int .i64 on, .int .i64 kd, .int .i64 xa, .int .i64 xb])
      have HE7 := Held.mk (HEr.out.keep (Keep.of_below hX (fun _ => False)) (fun h => h))
      have HF7 := Held.mk (HFr.out.keep (Keep.of_below hX (fun _ => False)) (fun h => h))
      have HLp7 := Held.mk (HLpr.out.below hX)
      have HLq7 := Held.mk (HLqr.out.below hX)
      have HG7 := Held.mk (HGr.out.below hX)
      have HC7 := Held.mk (HCr.out.below hX)
      have HD7 := Held.mk (HDr.out.below hX)
      have HB7 : Held (Below w6.heap.size w6 (wr.alloc (.cells #[.int .i64 on, .int .i64 kd, .int .i64 xa, .int .i64 xb] 60))) := ⟨Hwr.out.trans (hX.mono Hwr.out.size)⟩
      have k0 : (wr.alloc (.cells #[.int .i64 on, .int .i64 kd, .int .i64 xa, .int .i64 xb] 60)).cell? ⟨r1, 0, none⟩ = some (.bool p0) := HE7.out.cell 0
      have k1 : (wr.alloc (.cells #[.int .i64 on, .int .i64 kd, .int .i64 xa, .int .i64 xb] 60)).cell? ⟨r1, 1, none⟩ = some (.bool p1) := HE7.out.cell 1
      have k2 : (wr.alloc (.cells #[.int .i64 on, .int .i64 kd, .int .i64 xa, .int .i64 xb] 60)).cell? ⟨r1, 2, none⟩ = some (.bool p2) := HE7.out.cell 2
      have k3 : (wr.alloc (.cells #[.int .i64 on, .int .i64 kd, .int .i64 xa, .int .i64 xb] 60)).cell? ⟨r1, 3, none⟩ = some (.bool p3) := HE7.out.cell 3
      have k4 : (wr.alloc (.cells #[.int .i64 on, .int .i64 kd, .int .i64 xa, .int .i64 xb] 60)).cell? ⟨r1, 4, none⟩ = some (.bool p4) := HE7.out.cell 4
      have k5 : (wr.alloc (.cells #[.int .i64 on, .int .i64 kd, .int .i64 xa, .int .i64 xb] 60)).cell? ⟨r1, 5, none⟩ = some (.bool p5) := HE7.out.cell 5
      have k6 : (wr.alloc (.cells #[.int .i64 on, .int .i64 kd, .int .i64 xa, .int .i64 xb] 60)).cell? ⟨r1, 6, none⟩ = some (.bool p6) := HE7.out.cell 6
      have k7 : (wr.alloc (.cells #[.int .i64 on, .int .i64 kd, .int .i64 xa, .int .i64 xb] 60)).cell? ⟨r1, 7, none⟩ = some (.slice Ap np cp) := HE7.out.cell 7
      have j0 : (wr.alloc (.cells #[.int .i64 on, .int .i64 kd, .int .i64 xa, .int .i64 xb] 60)).cell? ⟨r2, 0, none⟩ = some (.bool q0) := HF7.out.cell 0
      have j1 : (wr.alloc (.cells #[.int .i64 on, .int .i64 kd, .int .i64 xa, .int .i64 xb] 60)).cell? ⟨r2, 1, none⟩ = some (.bool q1) := HF7.out.cell 1
      have j2 : (wr.alloc (.cells #[.int .i64 on, .int .i64 kd, .int .i64 xa, .int .i64 xb] 60)).cell? ⟨r2, 2, none⟩ = some (.bool q2) := HF7.out.cell 2
      have j3 : (wr.alloc (.cells #[.int .i64 on, .int .i64 kd, .int .i64 xa, .int .i64 xb] 60)).cell? ⟨r2, 3, none⟩ = some (.bool q3) := HF7.out.cell 3
      have j4 : (wr.alloc (.cells #[.int .i64 on, .int .i64 kd, .int .i64 xa, .int .i64 xb] 60)).cell? ⟨r2, 4, none⟩ = some (.bool q4) := HF7.out.cell 4
      have j5 : (wr.alloc (.cells #[.int .i64 on, .int .i64 kd, .int .i64 xa, .int .i64 xb] 60)).cell? ⟨r2, 5, none⟩ = some (.bool q5) := HF7.out.cell 5
      have j6 : (wr.alloc (.cells #[.int .i64 on, .int .i64 kd, .int .i64 xa, .int .i64 xb] 60)).cell? ⟨r2, 6, none⟩ = some (.bool q6) := HF7.out.cell 6
      have j7 : (wr.alloc (.cells #[.int .i64 on, .int .i64 kd, .int .i64 xa, .int .i64 xb] 60)).cell? ⟨r2, 7, none⟩ = some (.slice Aq nq cq) := HF7.out.cell 7
      by_cases hpar : on.tmod 2 = 0
      · have t0 : (on.tmod 2 == 0) = true := by simp [hpar]
        have t1 : (on.tmod 2 != 0) = false := by simp [hpar]
        clear hpar hX
        go_wp2_with fail
        generalize hg7 : wr.heap.size = r3 at *
        generalize wr.alloc (.cells #[.int .i64 on, .int .i64 kd, .int .i64 xa, .int .i64 xb] 60) = w7 at *
        refine (asked_any p0 p1 p2 p3 p4 p5 p6 Ap np cp xsp g1 b1 on kd xa xb w7 HC7.out HLp7.out hnp HG7.out Hg.out.b).mono ?_
        rintro e w8 ⟨rfl, hb⟩
        have HB8 : Held (Below w6.heap.size w6 w8) := ⟨HB7.out.trans (hb.mono HB7.out.size)⟩
        have HM8 := Held.mk (HM.out.keep (Keep.of_below hb (fun _ => False)) (fun h => h))
        clear hb HE7 HF7 HLp7 HLq7 HG7 HC7 HD7 HB7 HM k0 k1 k2 k3 k4 k5 k6 k7 j0 j1 j2 j3 j4 j5 j6 j7
        have m0 := HM8.out.cell 0
        simp at m0
        go_wp2
        go_roundw
        case rel => exact ⟨k + 1, by go_num, by omega, HB8⟩
        case measure => simp [intOf]; omega
      · have t0 : (on.tmod 2 == 0) = false := by simp [hpar]
        have t1 : (on.tmod 2 != 0) = true := by simp [hpar]
        clear hpar hX
        go_wp2_with fail
        generalize hg7 : wr.heap.size = r3 at *
        generalize wr.alloc (.cells #[.int .i64 on, .int .i64 kd, .int .i64 xa, .int .i64 xb] 60) = w7 at *
        refine (asked_any q0 q1 q2 q3 q4 q5 q6 Aq nq cq xsq g2 b2 on kd xa xb w7 HD7.out HLq7.out hnq HG7.out Hg.out.b).mono ?_
        rintro e w8 ⟨rfl, hb⟩
        have HB8 : Held (Below w6.heap.size w6 w8) := ⟨HB7.out.trans (hb.mono HB7.out.size)⟩
        have HM8 := Held.mk (HM.out.keep (Keep.of_below hb (fun _ => False)) (fun h => h))
        clear hb HE7 HF7 HLp7 HLq7 HG7 HC7 HD7 HB7 HM k0 k1 k2 k3 k4 k5 k6 k7 j0 j1 j2 j3 j4 j5 j6 j7
        have m0 := HM8.out.cell 0
        simp at m0
        go_wp2
        go_roundw
        case rel => exact ⟨k + 1, by go_num, by omega, HB8⟩
        case measure => simp [intOf]; omega
    · go_wp2
      go_ret
      exact ⟨rfl, HBr.out⟩
end Cal
end Go.Proofs.YtlnkdgjlbpldpaaDoor
