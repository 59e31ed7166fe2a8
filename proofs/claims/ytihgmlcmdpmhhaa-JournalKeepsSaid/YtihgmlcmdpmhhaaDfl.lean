/- A disk's power fails: walked. -/
import Derived.Test.YtihgmlcmdpmhhaaDsk
namespace Go.Proofs.Ytihgmlcmdpmhhaa
set_option linter.unusedVariables false
set_option linter.unusedSimpArgs false
namespace Jrn
open Go.RowKit Mem Apn
/-- What own answers, and what the disk is then. -/
theorem OwnC.own {w : World} {base : Nat} {v : Value} {xs : List Int} (h : OwnC w base v xs) : OwnN w base 5 .u8 v xs := h.1
set_option maxHeartbeats 4000000 in
set_option maxRecDepth 100000 in
theorem fail_any (F : Nat → Prop) (P : Nat) (s : DS) (k : Int) (w : World) (h : Dk0 w F P s) (hs : s.Good) :
    Calls Try.prog 36 #[.pointer (some ⟨P, 0, none⟩), .agg #[.int .i64 k]] w fun e w' => e = .returned (.tuple #[]) ∧ Dk w' (Nw F w w') P (failS s k) ∧ Keep (fun k => k = P) w w' := by
  have HD := Held.mk h
  obtain ⟨v1, v2, armed, inn, h1, h2, h3, h4, h5, h6, h7⟩ := h.ex
  have H67 := Held.mk (And.intro h6 h7)
  have HLt := Held.mk h1.lt
  have HO2 := Held.mk h3
  obtain ⟨A1, c1, rfl, hc1, hr1⟩ := rd_own h2
  obtain ⟨A2, c2, rfl, hc2, hr2⟩ := rd_own h3
  have h1a := h1.alloc (.cells #[.int .i64 k] 50)
  have HBk := Held.mk h1
  have HR1 := Held.mk (RdV.keep hr1 ((Keep.refl (fun _ => False) w).alloc (.cells #[.int .i64 k] 50)) (fun _ _ h => h))
  have HR2 := Held.mk (RdV.keep hr2 ((Keep.refl (fun _ => False) w).alloc (.cells #[.int .i64 k] 50)) (fun _ _ h => h))
  have HB1 := Held.mk h1a
  have q0 := h1a.cell 0
  have q1 := h1a.cell 1
  have q2 := h1a.cell 2
  have e0 : (w.alloc (.cells #[.int .i64 k] 50)).cell? ⟨w.heap.size, 0, none⟩ = some (.int .i64 k) := (Blk.new w 50 #[.int .i64 k]).cell 0
  have HS := Held.mk hs
  have hlb := hs.lb
  have hld := hs.ld
  have hle := hs.least
  have hff := hs.failed
  have hkw : Held (Keep (fun k => k = P) w (w.alloc (.cells #[.int .i64 k] 50))) := ⟨(Keep.refl _ w).alloc _⟩
  obtain ⟨m, hm⟩ : ∃ m, s.B.length = m := ⟨_, rfl⟩
  obtain ⟨l, hl⟩ : ∃ l, s.least = l := ⟨_, rfl⟩
  rw [hm] at q0 hlb hle hc1 HR1 HB1
  rw [hl] at q2 hle HB1
  rw [hm] at q1 q2
  rw [hl] at q0 q1
  clear h h1 h2 h3 h4 h5 h6 h7 hr1 hr2 h1a hs
  by_cases hk : 1 ≤ k
  · have hfs : Held (failS s k = ⟨s.B.take (s.least + min k.toNat (s.B.length - s.least)), s.B.take (s.least + min k.toNat (s.B.length - s.least)), (s.B.take (s.least + min k.toNat (s.B.length - s.least))).length, true, s.failed + 1, 0, s.keep⟩) := ⟨by unfold failS leftS; rw [if_pos hk]⟩
    rw [hl, hm] at hfs
    obtain ⟨nn, hnn⟩ : ∃ nn : Nat, l + min k.toNat (m - l) = nn := ⟨_, rfl⟩
    have hmin : (l : Int) + min k ((m : Int) - (l : Int)) = (nn : Int) := by omega
    have hnm : nn ≤ m := by omega
    have i1 : decide (1 ≤ k) = true := decide_eq_true hk
    go_enter Try.func36, Try.ntmps36
    go_wp2_with fail
    go_region_held3 (fun w' => w'.cell? ⟨P, 2, none⟩ = some (.int .i64 (l : Int)) ∧ w'.cell? ⟨P, 0, none⟩ = some (.slice A1 m c1) ∧ w'.cell? ⟨w.heap.size, 0, none⟩ = some (.int .i64 k)) (go_keep) (fail)
    rw [hnn] at hfs
    have HXB : Held (∀ W, Below (w.alloc (.cells #[.int .i64 k] 50)).heap.size (w.alloc (.cells #[.int .i64 k] 50)) W → Blk W P 73 #[.slice A1 m c1, .slice A2 s.D.length c2, .int .i64 (l : Int), .bool s.dead, .int .i64 (s.failed : Int), .bool armed, .int .i64 inn, .int .i64 s.keep] ∧ RdN W (fun k => (Value.slice A1 m c1).ownBlock = some k) .u8 A1 m s.B) := ⟨fun W hB => ⟨HB1.out.keep (Keep.of_below hB (fun _ => False)) (fun h => h), RdV.keep HR1.out (Keep.of_below hB (fun _ => False)) (fun _ _ h => h)⟩⟩
    generalize hwa : w.alloc (.cells #[.int .i64 k] 50) = wa at *
    have hB : Below wa.heap.size wa wa.drew := ⟨rfl, rfl, rfl, Nat.le_refl _, fun _ _ => rfl⟩
    have HBy := Held.mk hB
    generalize wa.drew = wy at *
    obtain ⟨hXb, hXr⟩ := HXB.out wy hB
    have x0 := hXb.cell 0
    have hmc : (nn : Int) ≤ (m : Int) := by omega
    have hmd : (m : Int) ≤ (c1 : Int) := by omega
    have hrf : RdN wy (fun k => (Value.slice A1 m c1).ownBlock = some k) .u8 A1 nn (s.B.take nn) := by
      have h1 := RdV.front hXr (k := nn) hnm
      rw [Nat.mul_one] at h1
      unfold RdN
      rw [show nums .u8 (s.B.take nn) = (nums .u8 s.B).take nn by simp [nums, List.map_take]]
      exact h1
    have HOx := Held.mk (own_any _ A1 nn c1 (s.B.take nn) wy hrf (by omega))
    clear hB hXr hrf HXB
    go_wp2_with fail
    refine HOx.out.mono ?_
    rintro e w4 ⟨v4, rfl, ho4, hb4⟩
    have hln : (s.B.take nn).length = nn := by rw [List.length_take]; omega
    obtain ⟨A4, e4⟩ := ho4.2
    rw [hln] at e4
    subst e4
    have HO4 := Held.mk ho4.1
    have HBy4 := Held.mk (HBy.out.trans (hb4.mono HBy.out.size))
    have hB4 := hXb.keep (Keep.of_below hb4 (fun _ => False)) (fun h => h)
    have HBk4 := Held.mk hB4
    have u1 := hB4.cell 1
    have g1 := hB4.frozen 1
    clear ho4 hb4 hB4 HOx x0 hXb
    have HBz0 : Held (Blk (w4.setCell ⟨P, 1, none⟩ (.slice A4 nn nn)) P 73 #[.slice A1 m c1, .slice A4 nn nn, .int .i64 (l : Int), .bool s.dead, .int .i64 (s.failed : Int), .bool armed, .int .i64 inn, .int .i64 s.keep]) := ⟨by have := HBk4.out.set_ 1 (.slice A4 nn nn); simpa using this⟩
    have hk4 := kp (P := P) (i := 1) (w := w4) (.slice A4 nn nn)
    have HO4z : Held (OwnN (w4.setCell ⟨P, 1, none⟩ (.slice A4 nn nn)) wy.heap.size 5 .u8 (.slice A4 nn nn) (s.B.take nn)) := ⟨hk4.own HO4.out (fun j hj e => by rw [e] at hj; exact own_blk_ne HO4.out HBk4.out (by decide) hj)⟩
    have HKz := Held.mk ((hkw.out.trans (Keep.of_below HBy4.out (fun k => k = P))).trans hk4)
    have HRz : Held (RdN (w4.setCell ⟨P, 1, none⟩ (.slice A4 nn nn)) (fun k => (Value.slice A4 nn nn).ownBlock = some k) .u8 A4 nn (s.B.take nn)) := ⟨by
      obtain ⟨A', c', e', _, hr'⟩ := RdN.of_own HO4z.out
      rw [hln] at e' hr'
      injection e' with e1
      subst e1
      exact hr'⟩
    have hwy : wa.heap.size ≤ wy.heap.size := HBy.out.size
    have hz1 : (w4.setCell ⟨P, 1, none⟩ (.slice A4 nn nn)).cell? ⟨P, 1, none⟩ = some (.slice A4 nn nn) := HBz0.out.cell 1
    go_wp2_with fail
    generalize w4.setCell ⟨P, 1, none⟩ (.slice A4 nn nn) = wz at *
    have HBz := HBz0
    have z1 := HBz.out.cell 1
    have HOw := Held.mk (own_any _ A4 nn nn (s.B.take nn) wz HRz.out (by omega))
    go_wp2_with fail
    refine HOw.out.mono ?_
    rintro e w5 ⟨v5, rfl, ho5, hb5⟩
    obtain ⟨A5, e5⟩ := ho5.2
    subst e5
    have HO5 := Held.mk ho5.1
    have HB5 := Held.mk hb5
    have hB5 := HBz.out.keep (Keep.of_below hb5 (fun _ => False)) (fun h => h)
    have HBk5 := Held.mk hB5
    obtain ⟨nd, hnd⟩ : ∃ n, (s.B.take nn).length = n := ⟨_, rfl⟩
    have hnd2 : nd ≤ 140737488355328 := by rw [← hnd, List.length_take]; omega
    rw [hnd]
    have y0 := hB5.cell 0
    have y2 := hB5.cell 2
    have y3 := hB5.cell 3
    have y4 := hB5.cell 4
    have y5 := hB5.cell 5
    have f0 := hB5.frozen 0
    have f2 := hB5.frozen 2
    have f3 := hB5.frozen 3
    have f4 := hB5.frozen 4
    have f5 := hB5.frozen 5
    clear ho5 hb5 hB5 HOw z1
    go_wp2_with fail
    go_end0
    have hkf := ((((kp (P := P) (i := 0) (w := w5) (.slice A5 nd nd)).trans (kp (P := P) (i := 2) (.int .i64 (nd : Int)))).trans (kp (P := P) (i := 3) (.bool true))).trans (kp (P := P) (i := 5) (.bool false))).trans (kp (P := P) (i := 4) (.int .i64 ((s.failed : Int) + 1)))
    have hbf := ((((HBk5.out.set_ 0 (.slice A5 nd nd)).set_ 2 (.int .i64 (nd : Int))).set_ 3 (.bool true)).set_ 5 (.bool false)).set_ 4 (.int .i64 ((s.failed : Int) + 1))
    have hall : Keep (fun k => k = P) w _ := ((HKz.out.trans (Keep.of_below HB5.out (fun k => k = P))).trans hkf)
    have hP := HD.out.pF
    have hPl := HLt.out
    have hwz : w.heap.size ≤ wz.heap.size := HKz.out.size
    have hwya : w.heap.size ≤ wy.heap.size := by have := hkw.out.size; omega
    rw [hfs.out]
    refine ⟨rfl, ⟨⟨.slice A5 nd nd, .slice A4 nn nn, false, inn, ?_, ?_, ?_, ?_, .inr ⟨rfl, rfl⟩, ?_, ?_⟩, .inl hP⟩, hall⟩
    · simpa [hnd] using hbf
    · have h6 := hkf.own HO5.out (fun j hj e => by rw [e] at hj; exact own_blk_ne HO5.out HBk5.out (by decide) hj)
      have h7 := own_rebase h6 (base' := 0) (fun j hj => Nat.zero_le _)
      rw [hnd] at h7
      unfold OwnN
      simp only
      rw [hnd]
      exact h7
    · have h5 := (Keep.of_below HB5.out (fun _ => False)).own HO4z.out (fun _ _ h => h)
      have h6 := hkf.own h5 (fun j hj e => by rw [e] at hj; exact own_blk_ne h5 HBk5.out (by decide) hj)
      exact own_rebase h6 (base' := 0) (fun j hj => Nat.zero_le _)
    · intro j hj hj2
      have h6 := own_ge HO5.out j (by rw [hnd]; exact hj)
      have h7 := own_lt HO4z.out j hj2
      omega
    · intro j hj
      have h6 := own_ge HO5.out j (by rw [hnd]; exact hj)
      have h7 := own_lt HO5.out j (by rw [hnd]; exact hj)
      exact .inr ⟨by omega, Nat.lt_of_lt_of_le h7 hkf.size⟩
    · intro j hj
      have h6 := own_ge HO4z.out j hj
      have h7 := own_lt HO4z.out j hj
      exact .inr ⟨by omega, Nat.lt_of_lt_of_le (Nat.lt_of_lt_of_le h7 HB5.out.size) hkf.size⟩
  · have hfs : Held (failS s k = ⟨s.D, s.D, s.D.length, true, s.failed + 1, 0, s.keep⟩) := ⟨by unfold failS leftS; rw [if_neg hk]⟩
    have i1 : decide (1 ≤ k) = false := decide_eq_false hk
    go_enter Try.func36, Try.ntmps36
    go_wp2_with fail
    generalize w.alloc (.cells #[.int .i64 k] 50) = wz at *
    have HBz := HB1
    have HRz : Held (RdN wz (fun k => (Value.slice A2 s.D.length c2).ownBlock = some k) .u8 A2 s.D.length s.D) := HR2
    have z1 := HBz.out.cell 1
    have HOw := Held.mk (own_any _ A2 s.D.length c2 s.D wz HRz.out (by omega))
    go_wp2_with fail
    refine HOw.out.mono ?_
    rintro e w5 ⟨v5, rfl, ho5, hb5⟩
    obtain ⟨A5, e5⟩ := ho5.2
    subst e5
    have HO5 := Held.mk ho5.1
    have HB5 := Held.mk hb5
    have hB5 := HBz.out.keep (Keep.of_below hb5 (fun _ => False)) (fun h => h)
    have HBk5 := Held.mk hB5
    obtain ⟨nd, hnd⟩ : ∃ n, s.D.length = n := ⟨_, rfl⟩
    have hnd2 : nd ≤ 140737488355328 := by omega
    rw [hnd]
    have y0 := hB5.cell 0
    have y2 := hB5.cell 2
    have y3 := hB5.cell 3
    have y4 := hB5.cell 4
    have y5 := hB5.cell 5
    have f0 := hB5.frozen 0
    have f2 := hB5.frozen 2
    have f3 := hB5.frozen 3
    have f4 := hB5.frozen 4
    have f5 := hB5.frozen 5
    clear ho5 hb5 hB5 HOw z1
    go_wp2_with fail
    go_end0
    have hkf := ((((kp (P := P) (i := 0) (w := w5) (.slice A5 nd nd)).trans (kp (P := P) (i := 2) (.int .i64 (nd : Int)))).trans (kp (P := P) (i := 3) (.bool true))).trans (kp (P := P) (i := 5) (.bool false))).trans (kp (P := P) (i := 4) (.int .i64 ((s.failed : Int) + 1)))
    have hbf := ((((HBk5.out.set_ 0 (.slice A5 nd nd)).set_ 2 (.int .i64 (nd : Int))).set_ 3 (.bool true)).set_ 5 (.bool false)).set_ 4 (.int .i64 ((s.failed : Int) + 1))
    have hall : Keep (fun k => k = P) w _ := ((hkw.out.trans (Keep.of_below HB5.out (fun k => k = P))).trans hkf)
    have hP := HD.out.pF
    have hPl := HLt.out
    have hwz : w.heap.size ≤ wz.heap.size := hkw.out.size
    rw [hfs.out]
    refine ⟨rfl, ⟨⟨.slice A5 nd nd, .slice A2 nd c2, false, inn, ?_, ?_, ?_, ?_, .inr ⟨rfl, rfl⟩, ?_, ?_⟩, .inl hP⟩, hall⟩
    · simpa [hnd] using hbf
    · have h6 := hkf.own HO5.out (fun j hj e => by rw [e] at hj; exact own_blk_ne HO5.out HBk5.out (by decide) hj)
      have h7 := own_rebase h6 (base' := 0) (fun j hj => Nat.zero_le _)
      rw [hnd] at h7
      unfold OwnN
      simp only
      rw [hnd]
      exact h7
    · have h6 := hall.own HO2.out (fun j hj e => by rw [e] at hj; exact own_blk_ne HO2.out HBk.out (by decide) hj)
      unfold OwnN at h6 ⊢
      simp only at h6 ⊢
      rw [hnd] at h6 ⊢
      exact h6
    · intro j hj hj2
      have h6 := own_ge HO5.out j (by rw [hnd]; exact hj)
      have h7 := own_lt HO2.out j (by rw [hnd]; exact hj2)
      omega
    · intro j hj
      have h6 := own_ge HO5.out j (by rw [hnd]; exact hj)
      have h7 := own_lt HO5.out j (by rw [hnd]; exact hj)
      exact .inr ⟨by omega, Nat.lt_of_lt_of_le h7 hkf.size⟩
    · intro j hj
      exact .inl (H67.out.2 j (by rw [hnd]; exact hj))
end Jrn
end Go.Proofs.Ytihgmlcmdpmhhaa
