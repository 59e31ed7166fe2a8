/- A disk's power fails: walked. -/
import Derived.Test.YtihgmlcmdpmhhaaDoorDsk
namespace Go.Proofs.YtihgmlcmdpmhhaaDoor
set_option linter.unusedVariables false
set_option linter.unusedSimpArgs false
namespace Jrn
open Go.RowKit Mem Apn
/-- What own answers, and what the disk is then. -/
theorem OwnC.own {w : World} {base : Nat} {v : Value} {xs : List Int} (h : OwnC w base v xs) : OwnN w base 5 .u8 v xs := h.1
set_option maxHeartbeats 4000000 in
set_option maxRecDepth 100000 in
theorem fail_any (F : Nat → Prop) (P : Nat) (s : DS) (k : Int) (w : World) (h : Dk0 w F P s) (hs : s.Good) :
    Calls Tryd.prog 63 #[.pointer (some ⟨P, 0, none⟩), .agg #[.int .i64 k]] w fun e w' => e = .returned (.tuple #[]) ∧ Dk w' (Nw F w w') P (failS s k) ∧ Keep (fun k => k = P) w w' := by
  have HD := Held.mk h
  obtain ⟨v1, v2, armed, inn, h1, h2, h3, h4, h5, h6, h7⟩ := h.ex
  have H67 := Held.mk (And.intro h6 h7)
  have HLt := Held.mk h1.lt
  have HO2 := Held.mk h3
  obtain ⟨A1, c1, rfl, hc1, hr1⟩ := rd_own h2
  obtain ⟨A2, c2, rfl, hc2, hr2⟩ := rd_own h3
  have h1a := h1.alloc (.cells #[.int .i64 k] 71)
  have HBk := Held.mk h1
  have HR1 := Held.mk (RdV.keep hr1 ((Keep.refl (fun _ => False) w).alloc (.cells #[.int .i64 k] 71)) (fun _ _ h => h))
  have HR2 := Held.mk (RdV.keep hr2 ((Keep.refl (fun _ => False) w).alloc (.cells #[.int .i64 k] 71)) (fun _ _ h => h))
  have HB1 := Held.mk h1a
  have q0 := h1a.cell 0
  have q1 := h1a.cell 1
  have q2 := h1a.cell 2
  have e0 : (w.alloc (.cells #[.int .i64 k] 71)).cell? ⟨w.heap.size, 0, none⟩ = some (.int .i64 k) := (Blk.new w 71 #[.int .i64 k]).cell 0
  have HS := Held.mk hs
  have hlb := hs.lb
  have hld := hs.ld
  have hle := hs.least
  have hff := hs.failed
  have hkw : Held (Keep (fun k => k = P) w (w.alloc (.cells #[.int .i64 k] 71))) := ⟨(Keep.refl _ w).alloc _⟩
  obtain ⟨m, hm⟩ : ∃ m, s.B.length = m := ⟨_, rfl⟩
  obtain ⟨l, hl⟩ : ∃ l, s.least = l := ⟨_, rfl⟩
  rw [hm] at q0 hlb hle hc1 HR1 HB1
  rw [hl] at q2 hle HB1
  rw [hm] at q1 q2
  rw [hl] at q0 q1
  clear h h1 h2 h3 h4 h5 h6 h7 hr1 hr2 h1a hs
  by_cases hk : 1 ≤ k
  · have hfs : Held (failS s k = ⟨s.B.take (s.least + min k.toNat (s.B.length - s.least)), s.B.take (s.least + min k.toNat (s.B.length - s.least)), (s.B.take (s.least + min k.toNat (s.B.length - s.least))).length, true, s.failed + 1, 0, s.keep⟩) := ⟨by unfold failS leftS; rw [if_pos hk]⟩
    rw [hl, hm] at hfs
    obtain ⟨nn, hnn⟩ : ∃ nn : Nat, l + min k.toNat (m - l) = nn := ⟨_, rfl⟩
    have hmin : (l : Int) + min k ((m : Int) - (l : Int)) = (nn : Int) := by omega
    have hnm : nn ≤ m := by omega
    have i1 : decide (1 ≤ k) = true := decide_eq_true hk
    go_enter Tryd.func63, Tryd.ntmps63
    go_wp2_with fail
    go_region_held3 (fun w' => w'.cell? ⟨P, 2, none⟩ = some (.int .i64 (l : Int)) ∧ w'.cell? ⟨P, 0, none⟩ = some (.slice A1 m c1) ∧ w'.cell? ⟨w.heap.size, 0, none⟩ = some (.int .i64 k)) (go_keep) (fail)
    rw [hnn] at hfs
    have HXB : Held (∀ W, Below (w.alloc (.cells #[.int .i64 k] 71)).heap.size (w.alloc (.cells #[.int .i64 k] 71)) W → Blk W P 115 #[.slice A1 m c1, .slice A2 s.D.length c2, .int .i64 (l : Int), .bool s.dead, .int .i64 (s.failed : Int), .bool armed, .int .i64 inn, .int .i64 s.keep] ∧ RdN W (fun k => (Value.slice A1 m c1).ownBlock = some k) .u8 A1 m s.B) := ⟨fun W hB => ⟨HB1.out.keep (Keep.of_below hB (fun _ => False)) (fun h => h), RdV.keep HR1.out (Keep.of_below hB (fun _ => False)) (fun _ _ h => h)⟩⟩
    generalize hwa : w.alloc (.cells #[.int .i64 k] 71) = wa at *
    have hB : Below wa.heap.size wa wa.drew := ⟨rfl, rfl, rfl, Nat.le_refl _, fun _ _ => rfl⟩
    have HBy := Held.mk hB
    generalize wa.drew = wy at *
    obtain ⟨hXb, hXr⟩ := HXB.out wy hB
    have x0 := hXb.cell 0
    have hmc : (nn : Int) ≤ (m : Int) := by omega
    have hmd : (m : Int) ≤ (c1 : Int) := by omega
    have hrf : RdN wy (fun k => (Value.slice A1 m c1).ownBlock = some k) .u8 A1 nn (s.B.take nn) := by
      have h1 := RdV.front hXr (k := nn) hnm
      rw [Nat.mul_one] at h1
      unfold RdN
      rw [show nums .u8 (s.B.take nn) = (nums .u8 s.B).take nn by simp [nums, List.map_take]]
      exact h1
    have HOx := Held.mk (own_any _ A1 nn c1 (s.B.take nn) wy hrf (by omega))
    clear hB hXr hrf HXB
    go_wp2_with fail
    refine HOx.out.mono ?_
    rintro e w4 ⟨v4, rfl, ho4, hb4⟩
    have hln : (s.B.take nn).length = nn := by rw [List.length_take]; omega
    obtain ⟨A4, e4⟩ := ho4.2
    rw [hln] at e4
    subst e4
    have HO4 := Held.mk ho4.1
    have HBy4 := Held.mk (HBy.out.trans (hb4.mono HBy.out.size))
    have hB4 := hXb.keep (Keep.of_below hb4 (fun _ => False)) (fun h => h)
    have HBk4 := Held.mk hB4
    have u1 := hB4.cell 1
    have g1 := hB4.frozen 1
    clear ho4 hb4 hB4 HOx x0 hXb
    have HBz0 : Held (Blk (w4.setCell ⟨P, 1, none⟩ (.slice A4 nn nn)) P 115 #[.slice A1 m c1, .slice A4 nn nn, .int .i64 (l : Int), .bool s.dead, .int .i64 (s.failed : Int), .bool armed, .int .i64 inn, .int .i64 s.keep]) := ⟨by have := HBk4.out.set_ 1 (.slice A4 nn nn); simpa using this⟩
    have hk4 := kp (P := P) (i := 1) (w := w4) (.slice A4 nn nn)
    have HO4z : Held (OwnN (w4.setCell ⟨P, 1, none⟩ (.slice A4 nn nn)) wy.heap.size 5 .u8 (.slice A4 nn nn) (s.B.take nn)) := ⟨hk4.own HO4.out (fun j hj e => by rw [e] at hj; exact own_blk_ne HO4.out HBk4.out (by decide) hj)⟩
    have HKz := Held.mk ((hkw.out.trans (Keep.of_below HBy4.out (fun k => k = P))).trans hk4)
    have HRz : Held (RdN (w4.setCell ⟨P, 1, none⟩ (.slice A4 nn nn)) (fun k => (Value.slice A4 nn nn).ownBlock = some k) .u8 A4 nn (s.B.take nn)) := ⟨by
      obtain ⟨A', c', e', _, hr'⟩ := RdN.of_own HO4z.out
      rw [hln] at e' hr'
      injection e' with e1
      subst e1
      exact hr'⟩
    have hwy : wa.heap.size ≤ wy.heap.size := HBy.out.size
    have hz1 : (w4.setCell ⟨P, 1, none⟩ (.slice A4 nn nn)).cell? ⟨P, 1, none⟩ = some (.slice A4 nn nn) := HBz0.out.cell 1
    go_wp2_with fail
    generalize w4.setCell ⟨P, 1, none⟩ (.slice A4 nn nn) = wz at *
    have HBz := HBz0
    have z1 := HBz.out.cell 1
    have HOw := Held.mk (own_any _ A4 nn nn (s.B.take nn) wz HRz.out (by omega))
    go_wp2_with fail
    refine HOw.out.mono ?_
    rintro e w5 ⟨v5, rfl, ho5, hb5⟩
    obtain ⟨A5, e5⟩ := ho5.2
    subst e5
    have HO5 := Held.mk ho5.1
    have HB5 := Held.mk hb5
    have hB5 := HBz.out.keep (Keep.of_below hb5 (fun _ => False)) (fun h => h)
    have HBk5 := Held.mk hB5
    obtain ⟨nd, hnd⟩ : ∃ n, (s.B.take nn).length = n := ⟨_, rfl⟩
    have hnd2 : nd ≤ 140737488355328 := by rw [← hnd, List.length_take]; omega
    rw [hnd]
    have y0 := hB5.cell 0
    have y2 := hB5.cell 2
    have y3 := hB5.cell 3
    have y4 := hB5.cell 4
    have y5 := hB5.cell 5
    have f0 := hB5.frozen 0
    have f2 := hB5.frozen 2
    have f3 := hB5.frozen 3
    have f4 := hB5.frozen 4
    have f5 := hB5.frozen 5
    clear ho5 hb5 hB5 HOw z1
    go_wp2_with fail
    go_end0
    have hkf := ((((kp (P := P) (i := 0) (w := w5) (.slice A5 nd nd)).trans (kp (P := P) (i := 2) (.int .i64 (nd : Int)))).trans (kp (P := P) (i := 3) (.bool true))).trans (kp (P := P) (i := 5) (.bool false))).trans (kp (P := P) (i := 4) (.int .i64 ((s.failed : Int) + 1)))
    have hbf := ((((HBk5.out.set_ 0 (.slice A5 nd nd)).set_ 2 (.int .i64 (nd : Int))).set_ 3 (.bool true)).set_ 5 (.bool false)).set_ 4 (.int .i64 ((s.failed : Int) + 1))
    have hall : Keep (fun k => k = P) w _ := ((HKz.out.trans (Keep.of_below HB5.out (fun k => k = P))).trans hkf)
    have hP := HD.out.pF
    have hPl := HLt.out
    have hwz : w.heap.size ≤ wz.heap.size := HKz.out.size
    have hwya : w.heap.size ≤ wy.heap.size := by have := hkw.out.size; omega
    rw [hfs.out]
    refine ⟨rfl, ⟨⟨.slice A5 nd nd, .slice A4 nn nn, false, inn, ?_, ?_, ?_, ?_, .inr ⟨rfl, rfl⟩, ?_, ?_⟩, .inl hP⟩, hall⟩
    · simpa [hnd] using hbf
    · have h6 := hkf.own HO5.out (fun j hj e => by rw [e] at hj; exact own_blk_ne HO5.out HBk5.out (by decide) hj)
      have h7 := own_rebase h6 (base' := 0) (fun j hj => Nat.zero_le _)
      rw [hnd] at h7
      unfold OwnN
      simp only
      rw [hnd]
      exact h7
    · have h5 := (Keep.of_below HB5.out (fun _ => False)).own HO4z.out (fun _ _ h => h)
      have h6 := hkf.own h5 (fun j hj e => by rw [e] at hj; exact own_blk_ne h5 HBk5.out (by decide) hj)
      exact own_rebase h6 (base' := 0) (fun j hj => Nat.zero_le _)
    · intro j hj hj2
      have h6 := own_ge HO5.out j (by rw [hnd]; exact hj)
      have h7 := own_lt HO4z.out j hj2
      omega
    · intro j hj
      have h6 := own_ge HO5.out j (by rw [hnd]; exact hj)
      have h7 := own_lt HO5.out j (by rw [hnd]; exact hj)
      exact .inr ⟨by omega, Nat.lt_of_lt_of_le h7 hkf.size⟩
    · intro j hj
      have h6 := own_ge HO4z.out j hj
      have h7 := own_lt HO4z.out j hj
      exact .inr ⟨by omega, Nat.lt_of_lt_of_le (Nat.lt_of_lt_of_le h7 HB5.out.size) hkf.size⟩
  · have hfs : Held (failS s k = ⟨s.D, s.D, s.D.length, true, s.failed + 1, 0, s.keep⟩) := ⟨by unfold failS leftS; rw [if_neg hk]⟩
    have i1 : decide (1 ≤ k) = false := decide_eq_false hk
    go_enter Tryd.func63, Tryd.ntmps63
    go_wp2_with fail
    generalize w.alloc (.cells #[.int .i64 k] 71) = wz at *
    have HBz := HB1
    have HRz : Held (RdN wz (fun k => (Value.slice A2 s.D.length c2).ownBlock = some k) .u8 A2 s.D.length s.D) := HR2
    have z1 := HBz.out.cell 1
    have HOw := Held.mk (own_any _ A2 s.D.length c2 s.D wz HRz.out (by omega))
    go_wp2_with fail
    refine HOw.out.mono ?_
    rintro e w5 ⟨v5, rfl, ho5, hb5⟩
    obtain ⟨A5, e5⟩ := ho5.2
    subst e5
    have HO5 := Held.mk ho5.1
    have HB5 := Held.mk hb5
    have hB5 := HBz.out.keep (Keep.of_below hb5 (fun _ => False)) (fun h => h)
    have HBk5 := Held.mk hB5
    obtain ⟨nd, hnd⟩ : ∃ n, s.D.length = n := ⟨_, rfl⟩
    have hnd2 : nd ≤ 140737488355328 := by omega
    rw [hnd]
    have y0 := hB5.cell 0
    have y2 := hB5.cell 2
    have y3 := hB5.cell 3
    have y4 := hB5.cell 4
    have y5 := hB5.cell 5
    have f0 := hB5.frozen 0
    have f2 := hB5.frozen 2
    have f3 := hB5.frozen 3
    have f4 := hB5.frozen 4
    have f5 := hB5.frozen 5
    clear ho5 hb5 hB5 HOw z1
    go_wp2_with fail
    go_end0
    have hkf := ((((kp (P := P) (i := 0) (w := w5) (.slice A5 nd nd)).trans (kp (P := P) (i := 2) (.int .i64 (nd : Int)))).trans (kp (P := P) (i := 3) (.bool true))).trans (kp (P := P) (i := 5) (.bool false))).trans (kp (P := P) (i := 4) (.int .i64 ((s.failed : Int) + 1)))
    have hbf := ((((HBk5.out.set_ 0 (.slice A5 nd nd)).set_ 2 (.int .i64 (nd : Int))).set_ 3 (.bool true)).set_ 5 (.bool false)).set_ 4 (.int .i64 ((s.failed : Int) + 1))
    have hall : Keep (fun k => k = P) w _ := ((hkw.out.trans (Keep.of_below HB5.out (fun k => k = P))).trans hkf)
    have hP := HD.out.pF
    have hPl := HLt.out
    have hwz : w.heap.size ≤ wz.heap.size := hkw.out.size
    rw [hfs.out]
    refine ⟨rfl, ⟨⟨.slice A5 nd nd, .slice A2 nd c2, false, inn, ?_, ?_, ?_, ?_, .inr ⟨rfl, rfl⟩, ?_, ?_⟩, .inl hP⟩, hall⟩
    · simpa [hnd] using hbf
    · have h6 := hkf.own HO5.out (fun j hj e => by rw [e] at hj; exact own_blk_ne HO5.out HBk5.out (by decide) hj)
      have h7 := own_rebase h6 (base' := 0) (fun j hj => Nat.zero_le _)
      rw [hnd] at h7
      unfold OwnN
      simp only
      rw [hnd]
      exact h7
    · have h6 := hall.own HO2.out (fun j hj e => by rw [e] at hj; exact own_blk_ne HO2.out HBk.out (by decide) hj)
      unfold OwnN at h6 ⊢
      simp only at h6 ⊢
      rw [hnd] at h6 ⊢
      exact h6
    · intro j hj hj2
      have h6 := own_ge HO5.out j (by rw [hnd]; exact hj)
      have h7 := own_lt HO2.out j (by rw [hnd]; exact hj2)
      omega
    · intro j hj
      have h6 := own_ge HO5.out j (by rw [hnd]; exact hj)
      have h7 := own_lt HO5.out j (by rw [hnd]; exact hj)
      exact .inr ⟨by omega, Nat.lt_of_lt_of_le h7 hkf.size⟩
    · intro j hj
      exact .inl (H67.out.2 j (by rw [hnd]; exact hj))
end Jrn
end Go.Proofs.YtihgmlcmdpmhhaaDoor
/- What is done to a disk's bytes: appended to, cut: walked. -/
namespace Go.Proofs.YtihgmlcmdpmhhaaDoor
set_option linter.unusedVariables false
set_option linter.unusedSimpArgs false
namespace Jrn
open Go.RowKit Mem Apn Go.Proofs.YtihgmlcmdpmhhaaDoorW.PrintLast
def addS (s : DS) (b : List Int) : DS := ⟨s.B ++ b, s.D, s.least, s.dead, s.failed, s.inn, s.keep⟩
def cutS (s : DS) (n : Nat) : DS := ⟨s.B.take n, s.D, min s.least n, s.dead, s.failed, s.inn, s.keep⟩
set_option maxHeartbeats 2000000 in
set_option maxRecDepth 100000 in
theorem write1_any (F : Nat → Prop) (P bx bz : Nat) (s : DS) (ok : Nat → Prop) (A : Option Addr) (n c : Nat) (b : List Int) (w : World) (h : Dk w F P s) (hs : s.Good) (hx : Blk w bx 59 #[.pointer (some ⟨P, 0, none⟩)])
    (hz : Blk w bz 22 #[.slice A n c]) (hr : RdN w ok .u8 A n b) (hn : n ≤ 67108864) (hF : ¬ F bx) (hF2 : ¬ F bz) :
    Calls Tryd.prog 65 #[.pointer (some ⟨bx, 0, none⟩), .pointer (some ⟨bz, 0, none⟩)] w fun e w' => e = .returned (.tuple #[]) ∧ Dk w' (Nw F w w') P (addS s b) ∧ Keep F w w' := by
  have HD := Held.mk h
  obtain ⟨v1, v2, armed, inn, h1, h2, h3, h4, h5, h6, h7⟩ := h.ex
  obtain ⟨A1, c1, rfl, hc1, hr1⟩ := rd_own h2
  have x0 := hx.cell 0
  have z0 := hz.cell 0
  have p0 := h1.cell 0
  simp at x0 z0 p0
  have HBk := Held.mk h1
  have HO1 := Held.mk h2
  have HO2 := Held.mk h3
  have HNe := Held.mk h4
  have HAr := Held.mk h5
  have H67 := Held.mk (And.intro h6 h7)
  have HR := Held.mk hr
  have HC : Held (((s.B.length + n) + (s.B.length + n) / 4 + 192) * 1 ≤ 281474976710656) := ⟨by have := hs.lb; omega⟩
  have nP : Held ((Value.slice A1 s.B.length c1).ownBlock ≠ some P) := ⟨own_blk_ne h2 h1 (by decide)⟩
  have nX : Held ((Value.slice A1 s.B.length c1).ownBlock ≠ some bx) := ⟨fun e => hF (h6 bx e)⟩
  have nZ : Held ((Value.slice A1 s.B.length c1).ownBlock ≠ some bz) := ⟨fun e => hF2 (h6 bz e)⟩
  have fP : ∀ w3, w.grownBy w3 (Value.slice A1 s.B.length c1).ownBlock → w3.frozen? ⟨P, 0, none⟩ = false := fun w3 hg => (HBk.out.keep (Keep.of_grown hg) (fun e => nP.out e)).frozen 0
  have HFp := Held.mk fP
  clear h hx hz hr h1 h2 h3 h4 h5 h6 h7 hr1 fP hs
  go_enter Tryd.func65, Tryd.ntmps65
  go_wp2_with fail
  refine start_ (n := 10) (S := fun w' => w'.cell? ⟨bx, 0, none⟩ = some (.pointer (some ⟨P, 0, none⟩)) ∧ w'.cell? ⟨bz, 0, none⟩ = some (.slice A n c) ∧ w'.cell? ⟨P, 0, none⟩ = some (.slice A1 s.B.length c1)) (ds := [9]) #[false, false, false, false, false, false, false, false, false, false] (by kernel_rfl) rfl rfl ⟨x0, z0, p0⟩ (fun hHeld => ?_)
  refine take_ (i := 0) (N := some 2) (v := ?_) (a' := ?_) #[true, false, false, false, false, false, false, false, false, false] rfl rfl (by kernel_rfl) (fun _ _ _ h => h) (Or.inl ⟨by rfl, ?_⟩) hHeld ?_ ?_
  rotate_left
  · rintro w' ⟨s0, s1, s2⟩
    go_simp
    with_reducible rfl
  rotate_left
  · simp only [Act.put, List.setIfInBounds_toArray, List.set_cons_zero, List.set_cons_succ, i64_w, i32_w]
    rfl
  refine take_ (i := 1) (N := some 3) (v := ?_) (a' := ?_) #[true, true, false, false, false, false, false, false, false, false] rfl rfl (by kernel_rfl) (fun _ _ _ h => h) (Or.inl ⟨by rfl, ?_⟩) hHeld ?_ ?_
  rotate_left
  · rintro w' ⟨s0, s1, s2⟩
    go_simp
    with_reducible rfl
  rotate_left
  · simp only [Act.put, List.setIfInBounds_toArray, List.set_cons_zero, List.set_cons_succ, i64_w, i32_w]
    rfl
  refine pure_ (i := 2) (N := some 4) (v := ?_) (a' := ?_) #[true, true, true, false, false, false, false, false, false, false] rfl rfl (by kernel_rfl) (fun _ _ _ h => h) (Or.inl ⟨by rfl, ?_⟩) ?_ ?_
  rotate_left
  · intro w'
    go_simp
    with_reducible rfl
  rotate_left
  · simp only [Act.put, List.setIfInBounds_toArray, List.set_cons_zero, List.set_cons_succ, i64_w, i32_w]
    rfl
  refine pure_ (i := 3) (N := some 5) (v := ?_) (a' := ?_) #[true, true, true, true, false, false, false, false, false, false] rfl rfl (by kernel_rfl) (fun _ _ _ h => h) (Or.inl ⟨by rfl, ?_⟩) ?_ ?_
  rotate_left
  · intro w'
    go_simp
    with_reducible rfl
  rotate_left
  · simp only [Act.put, List.setIfInBounds_toArray, List.set_cons_zero, List.set_cons_succ, i64_w, i32_w]
    rfl
  refine take_ (i := 4) (N := some 6) (v := ?_) (a' := ?_) #[true, true, true, true, true, false, false, false, false, false] rfl rfl (by kernel_rfl) (fun _ _ _ h => h) (Or.inl ⟨by rfl, ?_⟩) hHeld ?_ ?_
  rotate_left
  · rintro w' ⟨s0, s1, s2⟩
    go_simp
    with_reducible rfl
  rotate_left
  · simp only [Act.put, List.setIfInBounds_toArray, List.set_cons_zero, List.set_cons_succ, i64_w, i32_w]
    rfl
  refine take_ (i := 5) (N := some 7) (v := ?_) (a' := ?_) #[true, true, true, true, true, true, false, false, false, false] rfl rfl (by kernel_rfl) (fun _ _ _ h => h) (Or.inl ⟨by rfl, ?_⟩) hHeld ?_ ?_
  rotate_left
  · rintro w' ⟨s0, s1, s2⟩
    go_simp
    with_reducible rfl
  rotate_left
  · simp only [Act.put, List.setIfInBounds_toArray, List.set_cons_zero, List.set_cons_succ, i64_w, i32_w]
    rfl
  refine one_ (i := 6) (N := some 8) #[true, true, true, true, true, true, true, false, false, false] rfl rfl (by kernel_rfl) (by decide) (fun K hK => ?_)
  refine stepN 0 rfl (.tmp 6) (.tmp 7) 22 5 .u8 1 rfl Tryd.underlying22 Wire.info_u8 (by decide) _ s.B rfl HO1.out ok A n c b rfl HR.out HC.out (Nat.zero_le _) ?_
  intro v3 w3 ho3 hg3 hat3
  obtain ⟨A3, n3, c3, rfl, hn3, _⟩ := ho3.slice
  have hg3 : w.grownBy w3 (Value.slice A1 s.B.length c1).ownBlock := ⟨hg3.os, hg3.tape, hg3.output, hg3.size, hg3.block⟩
  have hat3 : (Value.slice A3 n3 c3).ownBlock = (Value.slice A1 s.B.length c1).ownBlock ∨ ∃ b, (Value.slice A3 n3 c3).ownBlock = some b ∧ w.heap.size ≤ b := hat3
  have e1 := (Keep.of_grown hg3).cell (a := ⟨bx, 0, none⟩) x0 nX.out
  have e2 := (Keep.of_grown hg3).cell (a := ⟨bz, 0, none⟩) z0 nZ.out
  have e3 := (Keep.of_grown hg3).cell (a := ⟨P, 0, none⟩) p0 nP.out
  have e4 := HFp.out w3 hg3
  refine hK.out _ _ ⟨e1, e2, e3⟩ (fun hHeld => ?_)
  clear hK K
  refine norm_ (a' := ?_) ?_ ?_
  rotate_left
  · show Act.put _ (some 8) _ = _
    simp only [Act.put, List.setIfInBounds_toArray, List.set_cons_zero, List.set_cons_succ, i64_w, i32_w]
    rfl
  refine pure_ (i := 7) (N := some 9) (v := ?_) (a' := ?_) #[true, true, true, true, true, true, true, true, false, false] rfl rfl (by kernel_rfl) (fun _ _ _ h => h) (Or.inl ⟨by rfl, ?_⟩) ?_ ?_
  rotate_left
  · intro w'
    go_simp
    with_reducible rfl
  rotate_left
  · simp only [Act.put, List.setIfInBounds_toArray, List.set_cons_zero, List.set_cons_succ, i64_w, i32_w]
    rfl
  refine pure_ (i := 8) (N := some 10) (v := ?_) (a' := ?_) #[true, true, true, true, true, true, true, true, true, false] rfl rfl (by kernel_rfl) (fun _ _ _ h => h) (Or.inl ⟨by rfl, ?_⟩) ?_ ?_
  rotate_left
  · intro w'
    go_simp
    with_reducible rfl
  rotate_left
  · simp only [Act.put, List.setIfInBounds_toArray, List.set_cons_zero, List.set_cons_succ, i64_w, i32_w]
    rfl
  refine last_ (i := 9) (N := none) #[true, true, true, true, true, true, true, true, true, true] rfl rfl (by kernel_rfl) (by decide) (fun K hK => ?_)
  refine skip_ (w1 := ?_) (by rfl) rfl ?_ ?_
  rotate_left
  · go_simp
    rfl
  refine hK.out _ _ ?_
  clear hK K
  refine done_ (by kernel_rfl) ?_
  go_wp2_with fail
  go_end0
  have k1 := Keep.of_grown hg3
  have hB3 := HBk.out.keep k1 (fun e => nP.out e)
  have h2' := k1.own HO2.out (fun j hj e => HNe.out j e hj)
  have kf : Keep F w w3 := k1.mono (fun j _ e => H67.out.1 j e)
  have hlt : ∀ j, (Value.slice A3 n3 c3).ownBlock = some j → j < w3.heap.size := fun j hj => own_lt ho3 j hj
  refine ⟨rfl, dk_of (s' := addS s b) hB3 ho3 h2' ?_ (kp _) (by have := hB3.set_ 0 (.slice A3 n3 c3); simpa [addS] using this) HAr.out ?_ (fun j hj => .inl (H67.out.2 j hj)) (.inl HD.out.pF), kf.setCell (p := ⟨P, 0, none⟩) (fun _ => HD.out.pF) _⟩
  · intro j hj hj2
    rcases hat3 with h8 | ⟨b', h8, h9⟩
    · exact HNe.out j (h8 ▸ hj) hj2
    · rw [h8] at hj
      injection hj with hj
      have := own_lt HO2.out j hj2
      omega
  · intro j hj
    rcases hat3 with h8 | ⟨b', h8, h9⟩
    · exact .inl (H67.out.1 j (h8 ▸ hj))
    · have h10 := hlt j hj
      rw [h8] at hj
      injection hj with hj
      exact .inr ⟨by omega, by simpa using h10⟩
set_option maxHeartbeats 2000000 in
set_option maxRecDepth 100000 in
theorem cut1_any (F : Nat → Prop) (P bx bz : Nat) (s : DS) (n : Nat) (w : World) (h : Dk w F P s) (hs : s.Good) (hx : Blk w bx 59 #[.pointer (some ⟨P, 0, none⟩)])
    (hz : Blk w bz 3 #[.int .i64 n]) (hn : n ≤ s.B.length) (hF : ¬ F bx) (hF2 : ¬ F bz) :
    Calls Tryd.prog 67 #[.pointer (some ⟨bx, 0, none⟩), .pointer (some ⟨bz, 0, none⟩)] w fun e w' => e = .returned (.tuple #[]) ∧ Dk w' F P (cutS s n) ∧ Keep F w w' := by
  have HD := Held.mk h
  obtain ⟨v1, v2, armed, inn, h1, h2, h3, h4, h5, h6, h7⟩ := h.ex
  obtain ⟨A1, c1, rfl, hc1, hr1⟩ := rd_own h2
  have x0 := hx.cell 0
  have z0 := hz.cell 0
  have p0 := h1.cell 0
  have p2 := h1.cell 2
  have fr0 := h1.frozen 0
  have fr2 := h1.frozen 2
  simp at x0 z0 p0 p2
  have HBk := Held.mk h1
  have HOc := Held.mk (OwnC.cut h2 hn)
  have HO2 := Held.mk h3
  have HNe := Held.mk h4
  have HAr := Held.mk h5
  have H67 := Held.mk (And.intro h6 h7)
  have nx : bx ≠ P := fun e => hF (e ▸ HD.out.pF)
  have nz : bz ≠ P := fun e => hF2 (e ▸ HD.out.pF)
  have hnI : 0 ≤ (n : Int) ∧ (n : Int) ≤ (c1 : Int) := ⟨by omega, by omega⟩
  have hle := hs.least
  clear h hx hz h1 h2 h3 h4 h5 h6 h7 hr1 hs
  go_enter Tryd.func67, Tryd.ntmps67
  go_wp2_with fail
  refine start_ (n := 11) (S := fun w' => w'.cell? ⟨bx, 0, none⟩ = some (.pointer (some ⟨P, 0, none⟩)) ∧ w'.cell? ⟨bz, 0, none⟩ = some (.int .i64 (n : Int)) ∧ w'.cell? ⟨P, 0, none⟩ = some (.slice A1 s.B.length c1)) (ds := [10]) #[false, false, false, false, false, false, false, false, false, false, false] (by kernel_rfl) rfl rfl ⟨x0, z0, p0⟩ (fun hHeld => ?_)
  refine take_ (i := 0) (N := some 2) (v := ?_) (a' := ?_) #[true, false, false, false, false, false, false, false, false, false, false] rfl rfl (by kernel_rfl) (fun _ _ _ h => h) (Or.inl ⟨by rfl, ?_⟩) hHeld ?_ ?_
  rotate_left
  · rintro w' ⟨s0, s1, s2⟩
    go_simp
    with_reducible rfl
  rotate_left
  · simp only [Act.put, List.setIfInBounds_toArray, List.set_cons_zero, List.set_cons_succ, i64_w, i32_w]
    rfl
  refine take_ (i := 1) (N := some 3) (v := ?_) (a' := ?_) #[true, true, false, false, false, false, false, false, false, false, false] rfl rfl (by kernel_rfl) (fun _ _ _ h => h) (Or.inl ⟨by rfl, ?_⟩) hHeld ?_ ?_
  rotate_left
  · rintro w' ⟨s0, s1, s2⟩
    go_simp
    with_reducible rfl
  rotate_left
  · simp only [Act.put, List.setIfInBounds_toArray, List.set_cons_zero, List.set_cons_succ, i64_w, i32_w]
    rfl
  refine pure_ (i := 2) (N := some 4) (v := ?_) (a' := ?_) #[true, true, true, false, false, false, false, false, false, false, false] rfl rfl (by kernel_rfl) (fun _ _ _ h => h) (Or.inl ⟨by rfl, ?_⟩) ?_ ?_
  rotate_left
  · intro w'
    go_simp
    with_reducible rfl
  rotate_left
  · simp only [Act.put, List.setIfInBounds_toArray, List.set_cons_zero, List.set_cons_succ, i64_w, i32_w]
    rfl
  refine pure_ (i := 3) (N := some 5) (v := ?_) (a' := ?_) #[true, true, true, true, false, false, false, false, false, false, false] rfl rfl (by kernel_rfl) (fun _ _ _ h => h) (Or.inl ⟨by rfl, ?_⟩) ?_ ?_
  rotate_left
  · intro w'
    go_simp
    with_reducible rfl
  rotate_left
  · simp only [Act.put, List.setIfInBounds_toArray, List.set_cons_zero, List.set_cons_succ, i64_w, i32_w]
    rfl
  refine take_ (i := 4) (N := some 6) (v := ?_) (a' := ?_) #[true, true, true, true, true, false, false, false, false, false, false] rfl rfl (by kernel_rfl) (fun _ _ _ h => h) (Or.inl ⟨by rfl, ?_⟩) hHeld ?_ ?_
  rotate_left
  · rintro w' ⟨s0, s1, s2⟩
    go_simp
    with_reducible rfl
  rotate_left
  · simp only [Act.put, List.setIfInBounds_toArray, List.set_cons_zero, List.set_cons_succ, i64_w, i32_w]
    rfl
  refine take_ (i := 5) (N := some 7) (v := ?_) (a' := ?_) #[true, true, true, true, true, true, false, false, false, false, false] rfl rfl (by kernel_rfl) (fun _ _ _ h => h) (Or.inl ⟨by rfl, ?_⟩) hHeld ?_ ?_
  rotate_left
  · rintro w' ⟨s0, s1, s2⟩
    go_simp
    with_reducible rfl
  rotate_left
  · simp only [Act.put, List.setIfInBounds_toArray, List.set_cons_zero, List.set_cons_succ, i64_w, i32_w]
    rfl
  refine take_ (i := 6) (N := some 8) (v := ?_) (a' := ?_) #[true, true, true, true, true, true, true, false, false, false, false] rfl rfl (by kernel_rfl) (fun _ _ _ h => h) (Or.inl ⟨by rfl, ?_⟩) hHeld ?_ ?_
  rotate_left
  · rintro w' ⟨s0, s1, s2⟩
    go_simp
    with_reducible rfl
  rotate_left
  · simp only [Act.put, List.setIfInBounds_toArray, List.set_cons_zero, List.set_cons_succ, i64_w, i32_w]
    rfl
  refine pure_ (i := 7) (N := some 9) (v := ?_) (a' := ?_) #[true, true, true, true, true, true, true, true, false, false, false] rfl rfl (by kernel_rfl) (fun _ _ _ h => h) (Or.inl ⟨by rfl, ?_⟩) ?_ ?_
  rotate_left
  · intro w'
    go_simp
    with_reducible rfl
  rotate_left
  · simp only [Act.put, List.setIfInBounds_toArray, List.set_cons_zero, List.set_cons_succ, i64_w, i32_w]
    rfl
  refine pure_ (i := 8) (N := some 10) (v := ?_) (a' := ?_) #[true, true, true, true, true, true, true, true, true, false, false] rfl rfl (by kernel_rfl) (fun _ _ _ h => h) (Or.inl ⟨by rfl, ?_⟩) ?_ ?_
  rotate_left
  · intro w'
    go_simp
    with_reducible rfl
  rotate_left
  · simp only [Act.put, List.setIfInBounds_toArray, List.set_cons_zero, List.set_cons_succ, i64_w, i32_w]
    rfl
  refine pure_ (i := 9) (N := some 11) (v := ?_) (a' := ?_) #[true, true, true, true, true, true, true, true, true, true, false] rfl rfl (by kernel_rfl) (fun _ _ _ h => h) (Or.inl ⟨by rfl, ?_⟩) ?_ ?_
  rotate_left
  · intro w'
    go_simp
    with_reducible rfl
  rotate_left
  · simp only [Act.put, List.setIfInBounds_toArray, List.set_cons_zero, List.set_cons_succ, i64_w, i32_w]
    rfl
  refine last_ (i := 10) (N := none) #[true, true, true, true, true, true, true, true, true, true, true] rfl rfl (by kernel_rfl) (by decide) (fun K hK => ?_)
  refine skip_ (w1 := ?_) (by rfl) rfl ?_ ?_
  rotate_left
  · go_simp
    rfl
  refine hK.out _ _ ?_
  clear hK K
  refine done_ (by kernel_rfl) ?_
  have k1 : Keep (fun j => j = P) w (w.setCell ⟨P, 0, none⟩ (.slice A1 n n)).drew := (kp _).drew
  have b1 : Blk (w.setCell ⟨P, 0, none⟩ (.slice A1 n n)).drew P 115 #[.slice A1 n n, v2, .int .i64 s.least, .bool s.dead, .int .i64 s.failed, .bool armed, .int .i64 inn, .int .i64 s.keep] := by
    have := (HBk.out.set_ 0 (.slice A1 n n)).drew
    simpa using this
  have o1 := k1.own HOc.out.1 (fun j hj e => by rw [e] at hj; exact own_blk_ne HOc.out.1 HBk.out (by decide) hj)
  have o2 := k1.own HO2.out (fun j hj e => by rw [e] at hj; exact own_blk_ne HO2.out HBk.out (by decide) hj)
  have x1 := k1.cell x0 nx
  have z1 := k1.cell z0 nz
  have p1 := b1.cell 2
  have fr1 := b1.frozen 2
  have K1 := Held.mk k1
  have B1 := Held.mk b1
  have O1 := Held.mk o1
  have O2 := Held.mk o2
  simp only [show (#[Value.slice A1 n n, v2, .int .i64 (s.least : Int), .bool s.dead, .int .i64 (s.failed : Int), .bool armed, .int .i64 inn, .int .i64 s.keep] : Array Value)[2]? = some (.int .i64 (s.least : Int)) from rfl] at p1
  generalize (w.setCell ⟨P, 0, none⟩ (.slice A1 n n)).drew = w2 at *
  clear k1 b1 o1 o2 x0 z0 p0 p2 fr0 fr2
  go_wp2_with fail
  refine start_ (n := 10) (S := fun w' => w'.cell? ⟨bx, 0, none⟩ = some (.pointer (some ⟨P, 0, none⟩)) ∧ w'.cell? ⟨bz, 0, none⟩ = some (.int .i64 (n : Int)) ∧ w'.cell? ⟨P, 2, none⟩ = some (.int .i64 (s.least : Int))) (ds := [9]) #[false, false, false, false, false, false, false, false, false, false] (by kernel_rfl) rfl rfl ⟨x1, z1, p1⟩ (fun hHeld => ?_)
  refine take_ (i := 0) (N := some 12) (v := ?_) (a' := ?_) #[true, false, false, false, false, false, false, false, false, false] rfl rfl (by kernel_rfl) (fun _ _ _ h => h) (Or.inl ⟨by rfl, ?_⟩) hHeld ?_ ?_
  rotate_left
  · rintro w' ⟨s0, s1, s2⟩
    go_simp
    with_reducible rfl
  rotate_left
  · simp only [Act.put, List.setIfInBounds_toArray, List.set_cons_zero, List.set_cons_succ, i64_w, i32_w]
    rfl
  refine take_ (i := 1) (N := some 13) (v := ?_) (a' := ?_) #[true, true, false, false, false, false, false, false, false, false] rfl rfl (by kernel_rfl) (fun _ _ _ h => h) (Or.inl ⟨by rfl, ?_⟩) hHeld ?_ ?_
  rotate_left
  · rintro w' ⟨s0, s1, s2⟩
    go_simp
    with_reducible rfl
  rotate_left
  · simp only [Act.put, List.setIfInBounds_toArray, List.set_cons_zero, List.set_cons_succ, i64_w, i32_w]
    rfl
  refine pure_ (i := 2) (N := some 14) (v := ?_) (a' := ?_) #[true, true, true, false, false, false, false, false, false, false] rfl rfl (by kernel_rfl) (fun _ _ _ h => h) (Or.inl ⟨by rfl, ?_⟩) ?_ ?_
  rotate_left
  · intro w'
    go_simp
    with_reducible rfl
  rotate_left
  · simp only [Act.put, List.setIfInBounds_toArray, List.set_cons_zero, List.set_cons_succ, i64_w, i32_w]
    rfl
  refine pure_ (i := 3) (N := some 15) (v := ?_) (a' := ?_) #[true, true, true, true, false, false, false, false, false, false] rfl rfl (by kernel_rfl) (fun _ _ _ h => h) (Or.inl ⟨by rfl, ?_⟩) ?_ ?_
  rotate_left
  · intro w'
    go_simp
    with_reducible rfl
  rotate_left
  · simp only [Act.put, List.setIfInBounds_toArray, List.set_cons_zero, List.set_cons_succ, i64_w, i32_w]
    rfl
  refine take_ (i := 4) (N := some 16) (v := ?_) (a' := ?_) #[true, true, true, true, true, false, false, false, false, false] rfl rfl (by kernel_rfl) (fun _ _ _ h => h) (Or.inl ⟨by rfl, ?_⟩) hHeld ?_ ?_
  rotate_left
  · rintro w' ⟨s0, s1, s2⟩
    go_simp
    with_reducible rfl
  rotate_left
  · simp only [Act.put, List.setIfInBounds_toArray, List.set_cons_zero, List.set_cons_succ, i64_w, i32_w]
    rfl
  refine take_ (i := 5) (N := some 17) (v := ?_) (a' := ?_) #[true, true, true, true, true, true, false, false, false, false] rfl rfl (by kernel_rfl) (fun _ _ _ h => h) (Or.inl ⟨by rfl, ?_⟩) hHeld ?_ ?_
  rotate_left
  · rintro w' ⟨s0, s1, s2⟩
    go_simp
    with_reducible rfl
  rotate_left
  · simp only [Act.put, List.setIfInBounds_toArray, List.set_cons_zero, List.set_cons_succ, i64_w, i32_w]
    rfl
  refine pure_ (i := 6) (N := some 18) (v := ?_) (a' := ?_) #[true, true, true, true, true, true, true, false, false, false] rfl rfl (by kernel_rfl) (fun _ _ _ h => h) (Or.inl ⟨by rfl, ?_⟩) ?_ ?_
  rotate_left
  · intro w'
    go_simp
    with_reducible rfl
  rotate_left
  · simp only [Act.put, List.setIfInBounds_toArray, List.set_cons_zero, List.set_cons_succ, i64_w, i32_w]
    rfl
  refine pure_ (i := 7) (N := some 19) (v := ?_) (a' := ?_) #[true, true, true, true, true, true, true, true, false, false] rfl rfl (by kernel_rfl) (fun _ _ _ h => h) (Or.inl ⟨by rfl, ?_⟩) ?_ ?_
  rotate_left
  · intro w'
    go_simp
    with_reducible rfl
  rotate_left
  · simp only [Act.put, List.setIfInBounds_toArray, List.set_cons_zero, List.set_cons_succ, i64_w, i32_w]
    rfl
  refine pure_ (i := 8) (N := some 20) (v := ?_) (a' := ?_) #[true, true, true, true, true, true, true, true, true, false] rfl rfl (by kernel_rfl) (fun _ _ _ h => h) (Or.inl ⟨by rfl, ?_⟩) ?_ ?_
  rotate_left
  · intro w'
    go_simp
    with_reducible rfl
  rotate_left
  · simp only [Act.put, List.setIfInBounds_toArray, List.set_cons_zero, List.set_cons_succ, i64_w, i32_w]
    rfl
  refine last_ (i := 9) (N := none) #[true, true, true, true, true, true, true, true, true, true] rfl rfl (by kernel_rfl) (by decide) (fun K hK => ?_)
  refine skip_ (w1 := ?_) (by rfl) rfl ?_ ?_
  rotate_left
  · go_simp
    rfl
  refine hK.out _ _ ?_
  clear hK K
  refine done_ (by kernel_rfl) ?_
  go_wp2_with fail
  go_end0
  have em : ((min s.least n : Nat) : Int) = min (s.least : Int) (n : Int) := by omega
  have hl : (s.B.take n).length = n := by rw [List.length_take]; omega
  have k2 : Keep (fun j => j = P) w2 (w2.setCell ⟨P, 2, none⟩ (.int .i64 (min (s.least : Int) (n : Int)))).drew := (kp _).drew
  have b2 := (B1.out.set_ 2 (.int .i64 (min (s.least : Int) (n : Int)))).drew
  have h8 : ∀ j, (Value.slice A1 n n).ownBlock = some j → (Value.slice A1 s.B.length c1).ownBlock = some j := fun j h => by cases A1 <;> exact h
  refine ⟨rfl, dk_of (s' := cutS s n) B1.out O1.out O2.out (fun j hj => HNe.out j (h8 j hj)) k2 (by simpa [cutS, em] using b2) HAr.out (fun j hj => H67.out.1 j (h8 j hj)) H67.out.2 HD.out.pF, (K1.out.trans k2).mono (fun j _ e => e ▸ HD.out.pF)⟩
end Jrn
end Go.Proofs.YtihgmlcmdpmhhaaDoor
/- A disk's operations: walked. -/
namespace Go.Proofs.YtihgmlcmdpmhhaaDoor
set_option linter.unusedVariables false
set_option linter.unusedSimpArgs false
namespace Jrn
open Go.RowKit Mem Apn
/-- Behind an operation: does the power fail in it? -/
def doesS (s : DS) : DS × Bool :=
  if s.inn = 0 then (s, false) else if 1 < s.inn then (⟨s.B, s.D, s.least, s.dead, s.failed, s.inn - 1, s.keep⟩, false) else (failS ⟨s.B, s.D, s.least, s.dead, s.failed, 0, s.keep⟩ s.keep, true)
def deadV (what : ByteArray) : Value := .iface 52 (.agg #[.string what, .int .i64 23])
def errW (what : ByteArray) : Bool → Value
  | true => deadV what
  | false => .nilIface
theorem Nw.trans {F : Nat → Prop} {w w1 w2 : World} (h1 : w.heap.size ≤ w1.heap.size) (h2 : w1.heap.size ≤ w2.heap.size) : ∀ j, Nw (Nw F w w1) w1 w2 j → Nw F w w2 j := fun j h => by
  rcases h with (h | ⟨h3, h4⟩) | ⟨h3, h4⟩
  · exact .inl h
  · exact .inr ⟨h3, by omega⟩
  · exact .inr ⟨by omega, h4⟩
set_option maxHeartbeats 4000000 in
set_option maxRecDepth 100000 in
theorem does_write (bx bz : Nat) (F : Nat → Prop) (P : Nat) (s : DS) (what : ByteArray) (w : World)
    (hop : Calls Tryd.prog 65 #[.pointer (some ⟨bx, 0, none⟩), .pointer (some ⟨bz, 0, none⟩)] w fun e w' => e = .returned (.tuple #[]) ∧ Dk w' (Nw F w w') P s ∧ Keep F w w') (hs : s.Good) (hF : ∀ k, F k → k < w.heap.size) :
    Calls Tryd.prog 64 #[.pointer (some ⟨P, 0, none⟩), .string what, .func (.func 65) #[] #[.pointer (some ⟨bx, 0, none⟩), .pointer (some ⟨bz, 0, none⟩)]] w fun e w' => e = .returned (errW what (doesS s).2) ∧ Dk w' (Nw F w w') P (doesS s).1 ∧ Keep F w w' := by
  have HOp := Held.mk hop
  clear hop
  go_enter Tryd.func64, Tryd.ntmps64
  go_wp2_with fail
  refine HOp.out.mono ?_
  rintro e w1 ⟨rfl, hD1, hK1⟩
  have HD1 := Held.mk hD1
  have HK1 := Held.mk hK1
  obtain ⟨v1, v2, armed, inn, h1, h2, h3, h4, h5, h6, h7⟩ := hD1.ex
  have p5 := h1.cell 5
  have p6 := h1.cell 6
  have p7 := h1.cell 7
  have r6 := h1.frozen 6
  have HB := Held.mk h1
  have H2 := Held.mk h2
  have H3 := Held.mk h3
  have H4 := Held.mk h4
  have H67 := Held.mk (And.intro h6 h7)
  have HPF := Held.mk hD1.pF
  have hib := hs.inn
  clear hD1 hK1 h1 h2 h3 h4 h6 h7 HOp
  rcases h5 with ⟨rfl, rfl, hi1⟩ | ⟨rfl, hi0⟩
  · by_cases h2i : 1 < s.inn
    · have e1 : doesS s = (⟨s.B, s.D, s.least, s.dead, s.failed, s.inn - 1, s.keep⟩, false) := by unfold doesS; rw [if_neg (by omega), if_pos h2i]
      have i1 : decide (0 < (s.inn : Int) - 1) = true := decide_eq_true (by omega)
      have hw : wrap64 ((s.inn : Int) - 1) = (s.inn : Int) - 1 := IntWalk.wrap64_in _ ⟨by omega, by omega⟩
      go_wp2_with fail
      go_ret
      rw [e1]
      have hk := kp (P := P) (i := 6) (w := w1) (.int .i64 ((s.inn : Int) - 1))
      have ei : ((s.inn - 1 : Nat) : Int) = (s.inn : Int) - 1 := by omega
      refine ⟨rfl, dk_of (s' := ⟨s.B, s.D, s.least, s.dead, s.failed, s.inn - 1, s.keep⟩) (armed := true) (inn := (s.inn : Int) - 1) (F := Nw F w (w1.setCell ⟨P, 6, none⟩ (.int .i64 ((s.inn : Int) - 1)))) HB.out H2.out H3.out H4.out hk (by have := HB.out.set_ 6 (.int .i64 ((s.inn : Int) - 1)); simpa using this) (.inl ⟨rfl, ei.symm, by simp only; omega⟩) (fun j hj => (H67.out.1 j hj).imp id fun h => ⟨h.1, by simpa using h.2⟩) (fun j hj => (H67.out.2 j hj).imp id fun h => ⟨h.1, by simpa using h.2⟩) (HPF.out.imp id fun h => ⟨h.1, by simpa using h.2⟩), ?_⟩
      exact HK1.out.then hk (fun j hj e => by subst e; rcases HPF.out with h | h; exact h; exact absurd h.1 (by omega))
    · have e1 : doesS s = (failS ⟨s.B, s.D, s.least, s.dead, s.failed, 0, s.keep⟩ s.keep, true) := by unfold doesS; rw [if_neg (by omega), if_neg h2i]
      have hone : s.inn = 1 := by omega
      rw [hone] at p6
      have hk := kp (P := P) (i := 6) (w := w1) (.int .i64 0)
      have hb2 := HB.out.set_ 6 (.int .i64 0)
      have HD2 : Held (Dk0 (w1.setCell ⟨P, 6, none⟩ (.int .i64 0)) (Nw F w w1) P ⟨s.B, s.D, s.least, s.dead, s.failed, 0, s.keep⟩) := ⟨⟨⟨v1, v2, true, 0, by simpa using hb2, hk.own H2.out (fun j hj e => by rw [e] at hj; exact own_blk_ne H2.out HB.out (by decide) hj), hk.own H3.out (fun j hj e => by rw [e] at hj; exact own_blk_ne H3.out HB.out (by decide) hj), H4.out, trivial, H67.out.1, H67.out.2⟩, HPF.out⟩⟩
      have HK2 : Held (Keep F w (w1.setCell ⟨P, 6, none⟩ (.int .i64 0))) := ⟨HK1.out.then hk (fun j hj e => by
        subst e
        rcases HPF.out with h | h
        · exact h
        · exact absurd h.1 (by omega))⟩
      have HFl := Held.mk (fail_any (Nw F w w1) P ⟨s.B, s.D, s.least, s.dead, s.failed, 0, s.keep⟩ s.keep (w1.setCell ⟨P, 6, none⟩ (.int .i64 0)) HD2.out ⟨hs.least, hs.lb, hs.ld, hs.failed, by simp, hs.keep⟩)
      have hP7 : (w1.setCell ⟨P, 6, none⟩ (.int .i64 0)).cell? ⟨P, 7, none⟩ = some (.int .i64 s.keep) := hb2.cell 7
      clear hk hb2
      go_wp2_with fail
      refine HFl.out.mono ?_
      rintro e w3 ⟨rfl, hD3, hK3⟩
      have HD3 := Held.mk hD3
      have HK3 : Held (Keep F w w3) := ⟨HK2.out.then hK3 (fun j hj e => by
        subst e
        rcases HPF.out with h | h
        · exact h
        · exact absurd h.1 (by omega))⟩
      have hs3 := hK3.size
      clear hD3 hK3 HFl
      go_wp2_with fail
      refine (dead_any what w3).mono ?_
      rintro e w4 ⟨rfl, rfl⟩
      go_wp2_with fail
      go_ret
      rw [e1]
      exact ⟨rfl, HD3.out.mono (fun j h => Nw.trans (w1 := w1) HK1.out.size (by simpa using hs3) j (h.imp id fun h => ⟨by simpa using h.1, h.2⟩)), HK3.out⟩
  · have e1 : doesS s = (s, false) := by unfold doesS; rw [if_pos hi0]
    go_wp2_with fail
    go_ret
    rw [e1]
    exact ⟨rfl, HD1.out, HK1.out⟩
set_option maxHeartbeats 4000000 in
set_option maxRecDepth 100000 in
theorem does_cut (bx bz : Nat) (F : Nat → Prop) (P : Nat) (s : DS) (what : ByteArray) (w : World)
    (hop : Calls Tryd.prog 67 #[.pointer (some ⟨bx, 0, none⟩), .pointer (some ⟨bz, 0, none⟩)] w fun e w' => e = .returned (.tuple #[]) ∧ Dk w' (Nw F w w') P s ∧ Keep F w w') (hs : s.Good) (hF : ∀ k, F k → k < w.heap.size) :
    Calls Tryd.prog 64 #[.pointer (some ⟨P, 0, none⟩), .string what, .func (.func 67) #[] #[.pointer (some ⟨bx, 0, none⟩), .pointer (some ⟨bz, 0, none⟩)]] w fun e w' => e = .returned (errW what (doesS s).2) ∧ Dk w' (Nw F w w') P (doesS s).1 ∧ Keep F w w' := by
  have HOp := Held.mk hop
  clear hop
  go_enter Tryd.func64, Tryd.ntmps64
  go_wp2_with fail
  refine HOp.out.mono ?_
  rintro e w1 ⟨rfl, hD1, hK1⟩
  have HD1 := Held.mk hD1
  have HK1 := Held.mk hK1
  obtain ⟨v1, v2, armed, inn, h1, h2, h3, h4, h5, h6, h7⟩ := hD1.ex
  have p5 := h1.cell 5
  have p6 := h1.cell 6
  have p7 := h1.cell 7
  have r6 := h1.frozen 6
  have HB := Held.mk h1
  have H2 := Held.mk h2
  have H3 := Held.mk h3
  have H4 := Held.mk h4
  have H67 := Held.mk (And.intro h6 h7)
  have HPF := Held.mk hD1.pF
  have hib := hs.inn
  clear hD1 hK1 h1 h2 h3 h4 h6 h7 HOp
  rcases h5 with ⟨rfl, rfl, hi1⟩ | ⟨rfl, hi0⟩
  · by_cases h2i : 1 < s.inn
    · have e1 : doesS s = (⟨s.B, s.D, s.least, s.dead, s.failed, s.inn - 1, s.keep⟩, false) := by unfold doesS; rw [if_neg (by omega), if_pos h2i]
      have i1 : decide (0 < (s.inn : Int) - 1) = true := decide_eq_true (by omega)
      have hw : wrap64 ((s.inn : Int) - 1) = (s.inn : Int) - 1 := IntWalk.wrap64_in _ ⟨by omega, by omega⟩
      go_wp2_with fail
      go_ret
      rw [e1]
      have hk := kp (P := P) (i := 6) (w := w1) (.int .i64 ((s.inn : Int) - 1))
      have ei : ((s.inn - 1 : Nat) : Int) = (s.inn : Int) - 1 := by omega
      refine ⟨rfl, dk_of (s' := ⟨s.B, s.D, s.least, s.dead, s.failed, s.inn - 1, s.keep⟩) (armed := true) (inn := (s.inn : Int) - 1) (F := Nw F w (w1.setCell ⟨P, 6, none⟩ (.int .i64 ((s.inn : Int) - 1)))) HB.out H2.out H3.out H4.out hk (by have := HB.out.set_ 6 (.int .i64 ((s.inn : Int) - 1)); simpa using this) (.inl ⟨rfl, ei.symm, by simp only; omega⟩) (fun j hj => (H67.out.1 j hj).imp id fun h => ⟨h.1, by simpa using h.2⟩) (fun j hj => (H67.out.2 j hj).imp id fun h => ⟨h.1, by simpa using h.2⟩) (HPF.out.imp id fun h => ⟨h.1, by simpa using h.2⟩), ?_⟩
      exact HK1.out.then hk (fun j hj e => by subst e; rcases HPF.out with h | h; exact h; exact absurd h.1 (by omega))
    · have e1 : doesS s = (failS ⟨s.B, s.D, s.least, s.dead, s.failed, 0, s.keep⟩ s.keep, true) := by unfold doesS; rw [if_neg (by omega), if_neg h2i]
      have hone : s.inn = 1 := by omega
      rw [hone] at p6
      have hk := kp (P := P) (i := 6) (w := w1) (.int .i64 0)
      have hb2 := HB.out.set_ 6 (.int .i64 0)
      have HD2 : Held (Dk0 (w1.setCell ⟨P, 6, none⟩ (.int .i64 0)) (Nw F w w1) P ⟨s.B, s.D, s.least, s.dead, s.failed, 0, s.keep⟩) := ⟨⟨⟨v1, v2, true, 0, by simpa using hb2, hk.own H2.out (fun j hj e => by rw [e] at hj; exact own_blk_ne H2.out HB.out (by decide) hj), hk.own H3.out (fun j hj e => by rw [e] at hj; exact own_blk_ne H3.out HB.out (by decide) hj), H4.out, trivial, H67.out.1, H67.out.2⟩, HPF.out⟩⟩
      have HK2 : Held (Keep F w (w1.setCell ⟨P, 6, none⟩ (.int .i64 0))) := ⟨HK1.out.then hk (fun j hj e => by
        subst e
        rcases HPF.out with h | h
        · exact h
        · exact absurd h.1 (by omega))⟩
      have HFl := Held.mk (fail_any (Nw F w w1) P ⟨s.B, s.D, s.least, s.dead, s.failed, 0, s.keep⟩ s.keep (w1.setCell ⟨P, 6, none⟩ (.int .i64 0)) HD2.out ⟨hs.least, hs.lb, hs.ld, hs.failed, by simp, hs.keep⟩)
      have hP7 : (w1.setCell ⟨P, 6, none⟩ (.int .i64 0)).cell? ⟨P, 7, none⟩ = some (.int .i64 s.keep) := hb2.cell 7
      clear hk hb2
      go_wp2_with fail
      refine HFl.out.mono ?_
      rintro e w3 ⟨rfl, hD3, hK3⟩
      have HD3 := Held.mk hD3
      have HK3 : Held (Keep F w w3) := ⟨HK2.out.then hK3 (fun j hj e => by
        subst e
        rcases HPF.out with h | h
        · exact h
        · exact absurd h.1 (by omega))⟩
      have hs3 := hK3.size
      clear hD3 hK3 HFl
      go_wp2_with fail
      refine (dead_any what w3).mono ?_
      rintro e w4 ⟨rfl, rfl⟩
      go_wp2_with fail
      go_ret
      rw [e1]
      exact ⟨rfl, HD3.out.mono (fun j h => Nw.trans (w1 := w1) HK1.out.size (by simpa using hs3) j (h.imp id fun h => ⟨by simpa using h.1, h.2⟩)), HK3.out⟩
  · have e1 : doesS s = (s, false) := by unfold doesS; rw [if_pos hi0]
    go_wp2_with fail
    go_ret
    rw [e1]
    exact ⟨rfl, HD1.out, HK1.out⟩
set_option maxHeartbeats 4000000 in
set_option maxRecDepth 100000 in
theorem does_sync (F : Nat → Prop) (P : Nat) (s : DS) (what : ByteArray) (w : World)
    (hop : Calls Tryd.prog 68 #[.pointer (some ⟨P, 0, none⟩)] w fun e w' => e = .returned (.tuple #[]) ∧ Dk w' (Nw F w w') P s ∧ Keep F w w') (hs : s.Good) (hF : ∀ k, F k → k < w.heap.size) :
    Calls Tryd.prog 64 #[.pointer (some ⟨P, 0, none⟩), .string what, .func (.func 68) #[.pointer (some ⟨P, 0, none⟩)] #[]] w fun e w' => e = .returned (errW what (doesS s).2) ∧ Dk w' (Nw F w w') P (doesS s).1 ∧ Keep F w w' := by
  have HOp := Held.mk hop
  clear hop
  go_enter Tryd.func64, Tryd.ntmps64
  go_wp2_with fail
  refine HOp.out.mono ?_
  rintro e w1 ⟨rfl, hD1, hK1⟩
  have HD1 := Held.mk hD1
  have HK1 := Held.mk hK1
  obtain ⟨v1, v2, armed, inn, h1, h2, h3, h4, h5, h6, h7⟩ := hD1.ex
  have p5 := h1.cell 5
  have p6 := h1.cell 6
  have p7 := h1.cell 7
  have r6 := h1.frozen 6
  have HB := Held.mk h1
  have H2 := Held.mk h2
  have H3 := Held.mk h3
  have H4 := Held.mk h4
  have H67 := Held.mk (And.intro h6 h7)
  have HPF := Held.mk hD1.pF
  have hib := hs.inn
  clear hD1 hK1 h1 h2 h3 h4 h6 h7 HOp
  rcases h5 with ⟨rfl, rfl, hi1⟩ | ⟨rfl, hi0⟩
  · by_cases h2i : 1 < s.inn
    · have e1 : doesS s = (⟨s.B, s.D, s.least, s.dead, s.failed, s.inn - 1, s.keep⟩, false) := by unfold doesS; rw [if_neg (by omega), if_pos h2i]
      have i1 : decide (0 < (s.inn : Int) - 1) = true := decide_eq_true (by omega)
      have hw : wrap64 ((s.inn : Int) - 1) = (s.inn : Int) - 1 := IntWalk.wrap64_in _ ⟨by omega, by omega⟩
      go_wp2_with fail
      go_ret
      rw [e1]
      have hk := kp (P := P) (i := 6) (w := w1) (.int .i64 ((s.inn : Int) - 1))
      have ei : ((s.inn - 1 : Nat) : Int) = (s.inn : Int) - 1 := by omega
      refine ⟨rfl, dk_of (s' := ⟨s.B, s.D, s.least, s.dead, s.failed, s.inn - 1, s.keep⟩) (armed := true) (inn := (s.inn : Int) - 1) (F := Nw F w (w1.setCell ⟨P, 6, none⟩ (.int .i64 ((s.inn : Int) - 1)))) HB.out H2.out H3.out H4.out hk (by have := HB.out.set_ 6 (.int .i64 ((s.inn : Int) - 1)); simpa using this) (.inl ⟨rfl, ei.symm, by simp only; omega⟩) (fun j hj => (H67.out.1 j hj).imp id fun h => ⟨h.1, by simpa using h.2⟩) (fun j hj => (H67.out.2 j hj).imp id fun h => ⟨h.1, by simpa using h.2⟩) (HPF.out.imp id fun h => ⟨h.1, by simpa using h.2⟩), ?_⟩
      exact HK1.out.then hk (fun j hj e => by subst e; rcases HPF.out with h | h; exact h; exact absurd h.1 (by omega))
    · have e1 : doesS s = (failS ⟨s.B, s.D, s.least, s.dead, s.failed, 0, s.keep⟩ s.keep, true) := by unfold doesS; rw [if_neg (by omega), if_neg h2i]
      have hone : s.inn = 1 := by omega
      rw [hone] at p6
      have hk := kp (P := P) (i := 6) (w := w1) (.int .i64 0)
      have hb2 := HB.out.set_ 6 (.int .i64 0)
      have HD2 : Held (Dk0 (w1.setCell ⟨P, 6, none⟩ (.int .i64 0)) (Nw F w w1) P ⟨s.B, s.D, s.least, s.dead, s.failed, 0, s.keep⟩) := ⟨⟨⟨v1, v2, true, 0, by simpa using hb2, hk.own H2.out (fun j hj e => by rw [e] at hj; exact own_blk_ne H2.out HB.out (by decide) hj), hk.own H3.out (fun j hj e => by rw [e] at hj; exact own_blk_ne H3.out HB.out (by decide) hj), H4.out, trivial, H67.out.1, H67.out.2⟩, HPF.out⟩⟩
      have HK2 : Held (Keep F w (w1.setCell ⟨P, 6, none⟩ (.int .i64 0))) := ⟨HK1.out.then hk (fun j hj e => by
        subst e
        rcases HPF.out with h | h
        · exact h
        · exact absurd h.1 (by omega))⟩
      have HFl := Held.mk (fail_any (Nw F w w1) P ⟨s.B, s.D, s.least, s.dead, s.failed, 0, s.keep⟩ s.keep (w1.setCell ⟨P, 6, none⟩ (.int .i64 0)) HD2.out ⟨hs.least, hs.lb, hs.ld, hs.failed, by simp, hs.keep⟩)
      have hP7 : (w1.setCell ⟨P, 6, none⟩ (.int .i64 0)).cell? ⟨P, 7, none⟩ = some (.int .i64 s.keep) := hb2.cell 7
      clear hk hb2
      go_wp2_with fail
      refine HFl.out.mono ?_
      rintro e w3 ⟨rfl, hD3, hK3⟩
      have HD3 := Held.mk hD3
      have HK3 : Held (Keep F w w3) := ⟨HK2.out.then hK3 (fun j hj e => by
        subst e
        rcases HPF.out with h | h
        · exact h
        · exact absurd h.1 (by omega))⟩
      have hs3 := hK3.size
      clear hD3 hK3 HFl
      go_wp2_with fail
      refine (dead_any what w3).mono ?_
      rintro e w4 ⟨rfl, rfl⟩
      go_wp2_with fail
      go_ret
      rw [e1]
      exact ⟨rfl, HD3.out.mono (fun j h => Nw.trans (w1 := w1) HK1.out.size (by simpa using hs3) j (h.imp id fun h => ⟨by simpa using h.1, h.2⟩)), HK3.out⟩
  · have e1 : doesS s = (s, false) := by unfold doesS; rw [if_pos hi0]
    go_wp2_with fail
    go_ret
    rw [e1]
    exact ⟨rfl, HD1.out, HK1.out⟩
end Jrn
end Go.Proofs.YtihgmlcmdpmhhaaDoor
/- Write: walked. -/
namespace Go.Proofs.YtihgmlcmdpmhhaaDoor
set_option linter.unusedVariables false
set_option linter.unusedSimpArgs false
namespace Jrn
open Go.RowKit Mem Apn
theorem goodAdd {s : DS} {b : List Int} {n : Nat} (h : s.Good) (hn : n + s.B.length ≤ 67108864) (hb : b.length = n) : (addS s b).Good :=
  ⟨by simp [addS]; have := h.least; omega, by simp [addS]; omega, h.ld, h.failed, h.inn, h.keep⟩
theorem goodCut {s : DS} {n : Nat} (h : s.Good) (hn : n ≤ s.B.length) : (cutS s n).Good :=
  ⟨by simp [cutS]; omega, by simp [cutS]; have := h.lb; omega, h.ld, h.failed, h.inn, h.keep⟩
/-- Write: what the disk is, what is told. -/
def writeS (s : DS) (b : List Int) : DS × Value :=
  if s.dead then (s, deadV ⟨#[119, 114, 105, 116, 101]⟩)
  else if 67108864 < s.B.length + b.length then (s, .iface 52 (.agg #[.string ⟨#[119, 114, 105, 116, 101]⟩, .int .i64 5]))
  else ((doesS (addS s b)).1, errW ⟨#[119, 114, 105, 116, 101]⟩ (doesS (addS s b)).2)
set_option maxHeartbeats 2000000 in
set_option maxRecDepth 100000 in
theorem write_any (F : Nat → Prop) (P : Nat) (s : DS) (ok : Nat → Prop) (A : Option Addr) (n c : Nat) (b : List Int) (w : World) (h : Dk w F P s) (hs : s.Good) (hr : RdN w ok .u8 A n b) (hF : ∀ k, F k → k < w.heap.size) (hn : n ≤ 140737488355328) :
    Calls Tryd.prog 33 #[.pointer (some ⟨P, 0, none⟩), .slice A n c] w fun e w' => e = .returned (writeS s b).2 ∧ Dk w' (Nw F w w') P (writeS s b).1 ∧ Keep F w w' := by
  have HD := Held.mk h
  have hbl := hr.len
  obtain ⟨v1, v2, armed, inn, h1, h2, h3, h4, h5, h6, h7⟩ := h.ex
  obtain ⟨A1, c1, rfl, hc1, hr1⟩ := rd_own h2
  have hlb := hs.lb
  have hk : Keep (fun _ => False) w ((w.alloc (.cells #[.pointer (some ⟨P, 0, none⟩)] 59)).alloc (.cells #[.slice A n c] 22)) := ((Keep.refl _ w).alloc _).alloc _
  have HKa := Held.mk hk
  have p0 := hk.cell (h1.cell 0) (fun h => h)
  have p3 := hk.cell (h1.cell 3) (fun h => h)
  have HX := Held.mk ((Blk.new w 59 #[.pointer (some ⟨P, 0, none⟩)]).alloc (.cells #[.slice A n c] 22))
  have HZ : Held (Blk ((w.alloc (.cells #[.pointer (some ⟨P, 0, none⟩)] 59)).alloc (.cells #[.slice A n c] 22)) (w.heap.size + 1) 22 #[.slice A n c]) := ⟨by
    have := Blk.new (w.alloc (.cells #[.pointer (some ⟨P, 0, none⟩)] 59)) 22 #[.slice A n c]
    rw [World.size_alloc] at this
    exact this⟩
  have e1 := HX.out.cell 0
  have e2 := HZ.out.cell 0
  have HR := Held.mk hr
  clear h h1 h2 h3 h4 h5 h6 h7 hr1 hk hr
  obtain ⟨m, hm⟩ : ∃ m, s.B.length = m := ⟨_, rfl⟩
  rw [hm] at p0 hlb
  cases hd : s.dead with
  | true =>
    rw [hd] at p3
    have e9 : writeS s b = (s, deadV ⟨#[119, 114, 105, 116, 101]⟩) := by unfold writeS; rw [if_pos hd]
    go_enter Tryd.func33, Tryd.ntmps33
    go_wp2_with fail
    refine (dead_any _ _).mono ?_
    rintro e w2 ⟨rfl, rfl⟩
    go_wp2_with fail
    go_ret
    rw [e9]
    exact ⟨rfl, (HD.out.keep_ HKa.out (fun _ _ _ h => h)).mono (fun j h => .inl h), HKa.out.mono (fun _ _ h => h.elim)⟩
  | false =>
    rw [hd] at p3
    by_cases hf : 67108864 < m + n
    · have i1 : decide (67108864 - (m : Int) < (n : Int)) = true := decide_eq_true (by omega)
      have e9 : writeS s b = (s, .iface 52 (.agg #[.string ⟨#[119, 114, 105, 116, 101]⟩, .int .i64 5])) := by unfold writeS; rw [if_neg (by simp [hd]), if_pos (by omega)]
      go_enter Tryd.func33, Tryd.ntmps33
      go_wp2_with fail
      go_quiet (fail)
      go_wp2_with fail
      go_ret
      rw [e9]
      exact ⟨rfl, ((HD.out.keep_ HKa.out (fun _ _ _ h => h)).keep_ ((Keep.refl (fun _ => False) _).drewN _) (fun _ _ _ h => h)).mono (fun j h => .inl h), (HKa.out.drewN _).mono (fun _ _ h => h.elim)⟩
    · have i1 : decide (67108864 - (m : Int) < (n : Int)) = false := decide_eq_false (by omega)
      have e9 : writeS s b = ((doesS (addS s b)).1, errW ⟨#[119, 114, 105, 116, 101]⟩ (doesS (addS s b)).2) := by unfold writeS; rw [if_neg (by simp [hd]), if_neg (by omega)]
      have hnm : n + s.B.length ≤ 67108864 := by omega
      have HWr : Held (∀ q, Calls Tryd.prog 64 #[.pointer (some ⟨P, 0, none⟩), .string ⟨#[119, 114, 105, 116, 101]⟩, .func (.func 65) #[] #[.pointer (some ⟨w.heap.size, 0, none⟩), .pointer (some ⟨w.heap.size + 1, 0, none⟩)]] (((w.alloc (.cells #[.pointer (some ⟨P, 0, none⟩)] 59)).alloc (.cells #[.slice A n c] 22)).drewN q) fun e w' => e = .returned (errW ⟨#[119, 114, 105, 116, 101]⟩ (doesS (addS s b)).2) ∧ Dk w' (Nw F w w') P (doesS (addS s b)).1 ∧ Keep F w w') := ⟨fun q => by
        have hkq : Keep (fun _ => False) w (((w.alloc (.cells #[.pointer (some ⟨P, 0, none⟩)] 59)).alloc (.cells #[.slice A n c] 22)).drewN q) := HKa.out.drewN q
        have hDq := HD.out.keep_ hkq (fun _ _ _ h => h)
        have hRq : RdN (((w.alloc (.cells #[.pointer (some ⟨P, 0, none⟩)] 59)).alloc (.cells #[.slice A n c] 22)).drewN q) ok .u8 A n b := RdV.keep HR.out hkq (fun _ _ h => h)
        have hop := write1_any F P w.heap.size (w.heap.size + 1) s ok A n c b _ hDq hs (HX.out.drewN q) (HZ.out.drewN q) hRq (by omega) (fun h => by have := hF _ h; omega) (fun h => by have := hF _ h; omega)
        refine (does_write w.heap.size (w.heap.size + 1) F P (addS s b) _ _ hop (goodAdd hs hnm hbl) (fun k hk => Nat.lt_of_lt_of_le (hF k hk) hkq.size)).mono ?_
        rintro e w' ⟨he, hd', hk'⟩
        exact ⟨he, hd'.mono (fun j h => h.imp id fun h => ⟨Nat.le_trans hkq.size h.1, h.2⟩), (hkq.mono (fun _ _ h => h.elim)).trans hk'⟩⟩
      go_enter Tryd.func33, Tryd.ntmps33
      go_wp2_with fail
      go_quiet (fail)
      go_wp2_with fail
      refine (HWr.out _).mono ?_
      rintro e w2 ⟨rfl, hD2, hK2⟩
      have H2 := Held.mk (And.intro hD2 hK2)
      clear hD2 hK2
      go_wp2_with fail
      go_ret
      rw [e9]
      exact ⟨rfl, H2.out⟩
end Jrn
end Go.Proofs.YtihgmlcmdpmhhaaDoor
/- Cut, Sync, Crash: walked. -/
namespace Go.Proofs.YtihgmlcmdpmhhaaDoor
set_option linter.unusedVariables false
set_option linter.unusedSimpArgs false
namespace Jrn
open Go.RowKit Mem Apn
/-- Cut: what the disk is, what is told. -/
def cutOp (s : DS) (n : Int) : DS × Value :=
  if s.dead then (s, .iface 50 (.int .i64 23))
  else if n < 0 ∨ (s.B.length : Int) < n then (s, .iface 52 (.agg #[.string ⟨#[99, 117, 116]⟩, .int .i64 1]))
  else ((doesS (cutS s n.toNat)).1, errW ⟨#[99, 117, 116]⟩ (doesS (cutS s n.toNat)).2)
set_option maxHeartbeats 2000000 in
set_option maxRecDepth 100000 in
theorem cut_any (F : Nat → Prop) (P : Nat) (s : DS) (n : Int) (w : World) (h : Dk w F P s) (hs : s.Good) (hF : ∀ k, F k → k < w.heap.size) :
    Calls Tryd.prog 35 #[.pointer (some ⟨P, 0, none⟩), .int .i64 n] w fun e w' => e = .returned (cutOp s n).2 ∧ Dk w' (Nw F w w') P (cutOp s n).1 ∧ Keep F w w' := by
  have HD := Held.mk h
  obtain ⟨v1, v2, armed, inn, h1, h2, h3, h4, h5, h6, h7⟩ := h.ex
  obtain ⟨A1, c1, rfl, hc1, hr1⟩ := rd_own h2
  have hlb := hs.lb
  have hk : Keep (fun _ => False) w ((w.alloc (.cells #[.pointer (some ⟨P, 0, none⟩)] 59)).alloc (.cells #[.int .i64 n] 3)) := ((Keep.refl _ w).alloc _).alloc _
  have HKa := Held.mk hk
  have p0 := hk.cell (h1.cell 0) (fun h => h)
  have p3 := hk.cell (h1.cell 3) (fun h => h)
  have HX := Held.mk ((Blk.new w 59 #[.pointer (some ⟨P, 0, none⟩)]).alloc (.cells #[.int .i64 n] 3))
  have HZ : Held (Blk ((w.alloc (.cells #[.pointer (some ⟨P, 0, none⟩)] 59)).alloc (.cells #[.int .i64 n] 3)) (w.heap.size + 1) 3 #[.int .i64 n]) := ⟨by
    have := Blk.new (w.alloc (.cells #[.pointer (some ⟨P, 0, none⟩)] 59)) 3 #[.int .i64 n]
    rw [World.size_alloc] at this
    exact this⟩
  have e1 := HX.out.cell 0
  have e2 := HZ.out.cell 0
  clear h h1 h2 h3 h4 h5 h6 h7 hr1 hk
  obtain ⟨m, hm⟩ : ∃ m, s.B.length = m := ⟨_, rfl⟩
  rw [hm] at p0 hlb
  cases hd : s.dead with
  | true =>
    rw [hd] at p3
    have e9 : cutOp s n = (s, .iface 50 (.int .i64 23)) := by unfold cutOp; rw [if_pos hd]
    go_enter Tryd.func35, Tryd.ntmps35
    go_wp2_with fail
    go_ret
    rw [e9]
    exact ⟨rfl, (HD.out.keep_ HKa.out (fun _ _ _ h => h)).mono (fun j h => .inl h), HKa.out.mono (fun _ _ h => h.elim)⟩
  | false =>
    rw [hd] at p3
    by_cases hf : n < 0 ∨ (m : Int) < n
    · have e9 : cutOp s n = (s, .iface 52 (.agg #[.string ⟨#[99, 117, 116]⟩, .int .i64 1])) := by unfold cutOp; rw [if_neg (by simp [hd]), if_pos (by rw [hm]; exact hf)]
      by_cases h0 : n < 0
      · have i1 : decide (n < 0) = true := decide_eq_true h0
        clear hf
        go_enter Tryd.func35, Tryd.ntmps35
        go_wp2_with fail
        go_quiet (fail)
        go_wp2_with fail
        go_ret
        rw [e9]
        exact ⟨rfl, ((HD.out.keep_ HKa.out (fun _ _ _ h => h)).keep_ ((Keep.refl (fun _ => False) _).drewN _) (fun _ _ _ h => h)).mono (fun j h => .inl h), (HKa.out.drewN _).mono (fun _ _ h => h.elim)⟩
      · have i1 : decide (n < 0) = false := decide_eq_false h0
        have i2 : decide ((m : Int) < n) = true := decide_eq_true (by omega)
        clear hf
        go_enter Tryd.func35, Tryd.ntmps35
        go_wp2_with fail
        go_quiet (fail)
        go_wp2_with fail
        go_ret
        rw [e9]
        exact ⟨rfl, ((HD.out.keep_ HKa.out (fun _ _ _ h => h)).keep_ ((Keep.refl (fun _ => False) _).drewN _) (fun _ _ _ h => h)).mono (fun j h => .inl h), (HKa.out.drewN _).mono (fun _ _ h => h.elim)⟩
    · have e9 : cutOp s n = ((doesS (cutS s n.toNat)).1, errW ⟨#[99, 117, 116]⟩ (doesS (cutS s n.toNat)).2) := by unfold cutOp; rw [if_neg (by simp [hd]), if_neg (by rw [hm]; exact hf)]
      obtain ⟨k, rfl⟩ : ∃ k : Nat, n = (k : Int) := ⟨n.toNat, by omega⟩
      rw [Int.toNat_natCast] at e9
      have hkm : k ≤ s.B.length := by omega
      have i1 : decide ((k : Int) < 0) = false := decide_eq_false (by omega)
      have i2 : decide ((m : Int) < (k : Int)) = false := decide_eq_false (by omega)
      have HWr : Held (∀ q, Calls Tryd.prog 64 #[.pointer (some ⟨P, 0, none⟩), .string ⟨#[99, 117, 116]⟩, .func (.func 67) #[] #[.pointer (some ⟨w.heap.size, 0, none⟩), .pointer (some ⟨w.heap.size + 1, 0, none⟩)]] (((w.alloc (.cells #[.pointer (some ⟨P, 0, none⟩)] 59)).alloc (.cells #[.int .i64 (k : Int)] 3)).drewN q) fun e w' => e = .returned (errW ⟨#[99, 117, 116]⟩ (doesS (cutS s k)).2) ∧ Dk w' (Nw F w w') P (doesS (cutS s k)).1 ∧ Keep F w w') := ⟨fun q => by
        have hkq : Keep (fun _ => False) w (((w.alloc (.cells #[.pointer (some ⟨P, 0, none⟩)] 59)).alloc (.cells #[.int .i64 (k : Int)] 3)).drewN q) := HKa.out.drewN q
        have hDq := HD.out.keep_ hkq (fun _ _ _ h => h)
        have hop := (cut1_any F P w.heap.size (w.heap.size + 1) s k _ hDq hs (HX.out.drewN q) (HZ.out.drewN q) hkm (fun h => by have := hF _ h; omega) (fun h => by have := hF _ h; omega)).mono (fun e w' h => (⟨h.1, h.2.1.mono (fun j h => .inl h), h.2.2⟩ : e = .returned (.tuple #[]) ∧ Dk w' (Nw F (((w.alloc (.cells #[.pointer (some ⟨P, 0, none⟩)] 59)).alloc (.cells #[.int .i64 (k : Int)] 3)).drewN q) w') P (cutS s k) ∧ Keep F (((w.alloc (.cells #[.pointer (some ⟨P, 0, none⟩)] 59)).alloc (.cells #[.int .i64 (k : Int)] 3)).drewN q) w'))
        refine (does_cut w.heap.size (w.heap.size + 1) F P (cutS s k) _ _ hop (goodCut hs hkm) (fun k hk => Nat.lt_of_lt_of_le (hF k hk) hkq.size)).mono ?_
        rintro e w' ⟨he, hd', hk'⟩
        exact ⟨he, hd'.mono (fun j h => h.imp id fun h => ⟨Nat.le_trans hkq.size h.1, h.2⟩), (hkq.mono (fun _ _ h => h.elim)).trans hk'⟩⟩
      clear hf
      go_enter Tryd.func35, Tryd.ntmps35
      go_wp2_with fail
      go_quiet (fail)
      go_wp2_with fail
      refine (HWr.out _).mono ?_
      rintro e w2 ⟨rfl, hD2, hK2⟩
      have H2 := Held.mk (And.intro hD2 hK2)
      clear hD2 hK2
      go_wp2_with fail
      go_ret
      rw [e9]
      exact ⟨rfl, H2.out⟩
set_option maxHeartbeats 1000000 in
set_option maxRecDepth 100000 in
theorem nothing_any (P : Nat) (w : World) : Calls Tryd.prog 68 #[.pointer (some ⟨P, 0, none⟩)] w fun e w' => e = .returned (.tuple #[]) ∧ w' = w := by
  go_enter Tryd.func68, Tryd.ntmps68
  go_wp2
  go_end0
  exact ⟨rfl, rfl⟩
set_option maxHeartbeats 2000000 in
set_option maxRecDepth 100000 in
theorem crash_any (F : Nat → Prop) (P : Nat) (s : DS) (k : Int) (w : World) (h : Dk w F P s) (hs : s.Good) (hF : ∀ k, F k → k < w.heap.size) :
    Calls Tryd.prog 30 #[.pointer (some ⟨P, 0, none⟩), .agg #[.int .i64 k]] w fun e w' => e = .returned (.tuple #[]) ∧ Dk w' (Nw F w w') P (crashS s k) ∧ Keep F w w' := by
  have HD := Held.mk h
  obtain ⟨v1, v2, armed, inn, h1, h2, h3, h4, h5, h6, h7⟩ := h.ex
  have hk : Keep (fun _ => False) w (w.alloc (.cells #[.int .i64 k] 71)) := (Keep.refl _ w).alloc _
  have HKa := Held.mk hk
  have p3 := hk.cell (h1.cell 3) (fun h => h)
  have e0 : (w.alloc (.cells #[.int .i64 k] 71)).cell? ⟨w.heap.size, 0, none⟩ = some (.int .i64 k) := (Blk.new w 71 #[.int .i64 k]).cell 0
  have HFl := Held.mk (fail_any F P s k (w.alloc (.cells #[.int .i64 k] 71)) (h.keep_ hk (fun _ _ _ h => h)).zero hs)
  have hpF := h.pF
  clear h h1 h2 h3 h4 h5 h6 h7 hk
  cases hd : s.dead with
  | true =>
    rw [hd] at p3
    have e9 : crashS s k = s := by unfold crashS; rw [if_pos hd]
    go_enter Tryd.func30, Tryd.ntmps30
    go_wp2_with fail
    go_end0
    rw [e9]
    exact ⟨rfl, (HD.out.keep_ HKa.out (fun _ _ _ h => h)).mono (fun j h => .inl h), HKa.out.mono (fun _ _ h => h.elim)⟩
  | false =>
    rw [hd] at p3
    have e9 : crashS s k = failS s k := by unfold crashS; rw [if_neg (by simp [hd])]
    go_enter Tryd.func30, Tryd.ntmps30
    go_wp2_with fail
    refine HFl.out.mono ?_
    rintro e w2 ⟨rfl, hD2, hK2⟩
    have H2 := Held.mk (And.intro hD2 hK2)
    clear hD2 hK2
    go_wp2_with fail
    go_end0
    rw [e9]
    exact ⟨rfl, H2.out.1.mono (fun j h => h.imp id fun h => ⟨Nat.le_trans HKa.out.size h.1, h.2⟩), (HKa.out.mono (fun _ _ h => h.elim)).trans (H2.out.2.mono (fun j _ h => h ▸ hpF))⟩
end Jrn
end Go.Proofs.YtihgmlcmdpmhhaaDoor
/- Sync: walked. -/
namespace Go.Proofs.YtihgmlcmdpmhhaaDoor
set_option linter.unusedVariables false
set_option linter.unusedSimpArgs false
namespace Jrn
open Go.RowKit Mem Apn
/-- Sync: what the disk is, what is told. -/
def syncS (s : DS) : DS × Value :=
  if s.dead then (s, deadV ⟨#[115, 121, 110, 99]⟩)
  else match doesS s with
    | (s1, true) => (s1, deadV ⟨#[115, 121, 110, 99]⟩)
    | (s1, false) => (⟨s1.B, s1.B, s1.B.length, s1.dead, s1.failed, s1.inn, s1.keep⟩, .nilIface)
theorem doesS_lb (s : DS) (h : s.Good) (hb : (doesS s).2 = false) : (doesS s).1.B = s.B := by
  unfold doesS at hb ⊢
  split
  · rfl
  · split
    · rfl
    · rename_i h1 h2
      rw [if_neg h1, if_neg h2] at hb
      cases hb
set_option maxHeartbeats 4000000 in
set_option maxRecDepth 100000 in
theorem sync_any (F : Nat → Prop) (P : Nat) (s : DS) (w : World) (h : Dk w F P s) (hs : s.Good) (hF : ∀ k, F k → k < w.heap.size) :
    Calls Tryd.prog 37 #[.pointer (some ⟨P, 0, none⟩)] w fun e w' => e = .returned (syncS s).2 ∧ Dk w' (Nw F w w') P (syncS s).1 ∧ Keep F w w' := by
  have HD := Held.mk h
  obtain ⟨v1, v2, armed, inn, h1, _⟩ := h.ex
  have p3 := h1.cell 3
  have hop := (nothing_any P w).mono (fun e w' hh => (⟨hh.1, by rw [hh.2]; exact h.mono (fun j h => .inl h), by rw [hh.2]; exact Keep.refl _ _⟩ : e = .returned (.tuple #[]) ∧ Dk w' (Nw F w w') P s ∧ Keep F w w'))
  have HDo := Held.mk (does_sync F P s ⟨#[115, 121, 110, 99]⟩ w hop hs hF)
  have hlb := doesS_lb s hs
  have hl0 := hs.lb
  have hpF := Held.mk h.pF
  have hPl := Held.mk h.lt
  clear h h1 hop
  cases hd : s.dead with
  | true =>
    rw [hd] at p3
    have e9 : syncS s = (s, deadV ⟨#[115, 121, 110, 99]⟩) := by unfold syncS; rw [if_pos hd]
    go_enter Tryd.func37, Tryd.ntmps37
    go_wp2_with fail
    refine (dead_any _ _).mono ?_
    rintro e w2 ⟨rfl, rfl⟩
    go_wp2_with fail
    go_ret
    rw [e9]
    exact ⟨rfl, HD.out.mono (fun j h => .inl h), Keep.refl _ _⟩
  | false =>
    rw [hd] at p3
    obtain ⟨s1, bf, hds⟩ : ∃ s1 bf, doesS s = (s1, bf) := ⟨_, _, rfl⟩
    rw [hds] at HDo hlb
    simp only at HDo hlb
    cases bf with
    | true =>
      have e9 : syncS s = (s1, deadV ⟨#[115, 121, 110, 99]⟩) := by unfold syncS; rw [if_neg (by simp [hd]), hds]
      clear hlb
      simp only [errW, deadV] at HDo
      go_enter Tryd.func37, Tryd.ntmps37
      go_wp2_with fail
      refine HDo.out.mono ?_
      rintro e w2 ⟨rfl, hD2, hK2⟩
      have H2 := Held.mk (And.intro hD2 hK2)
      clear hD2 hK2
      go_wp2_with fail
      go_ret
      rw [e9]
      exact ⟨rfl, H2.out⟩
    | false =>
      have e9 : syncS s = (⟨s1.B, s1.B, s1.B.length, s1.dead, s1.failed, s1.inn, s1.keep⟩, .nilIface) := by unfold syncS; rw [if_neg (by simp [hd]), hds]
      have hB1 := hlb rfl
      clear hlb
      simp only [errW] at HDo
      go_enter Tryd.func37, Tryd.ntmps37
      go_wp2_with fail
      refine HDo.out.mono ?_
      rintro e w2 ⟨rfl, hD2, hK2⟩
      obtain ⟨v1, v2, armed, inn, h1, h2, h3, h4, h5, h6, h7⟩ := hD2.ex
      obtain ⟨A1, c1, rfl, hc1, hr1⟩ := rd_own h2
      have p0 := h1.cell 0
      have HB2 := Held.mk h1
      have HO2 := Held.mk h2
      have HAr := Held.mk h5
      have HF2 := Held.mk h6
      have HK2 := Held.mk hK2
      have HPF := Held.mk hD2.pF
      obtain ⟨m, hm⟩ : ∃ m, s1.B.length = m := ⟨_, rfl⟩
      have hmb : m ≤ 140737488355328 := by rw [← hm, hB1]; exact hl0
      have HOw := Held.mk (own_any _ A1 s1.B.length c1 s1.B w2 hr1 (by omega))
      rw [hm] at p0 HOw
      clear hD2 hK2 h1 h2 h3 h4 h5 h6 h7 hr1 hc1
      go_wp2_with fail
      refine HOw.out.mono ?_
      rintro e w3 ⟨v3, rfl, ho3, hb3⟩
      obtain ⟨A3, e3⟩ := ho3.2
      subst e3
      have HO3 := Held.mk ho3.1
      have HB3 := Held.mk hb3
      have hB3 := HB2.out.keep (Keep.of_below hb3 (fun _ => False)) (fun h => h)
      have HBk3 := Held.mk hB3
      have y0 := hB3.cell 0
      have y1 := hB3.cell 1
      have y2 := hB3.cell 2
      have f1 := hB3.frozen 1
      have f2 := hB3.frozen 2
      rw [hm] at y0 ⊢
      clear ho3 hb3 hB3 HOw p0
      go_wp2_with fail
      go_ret
      rw [e9]
      have hkf := (kp (P := P) (i := 1) (w := w3) (.slice A3 m m)).trans (kp (P := P) (i := 2) (.int .i64 (m : Int)))
      have hbf := (HBk3.out.set_ 1 (.slice A3 m m)).set_ 2 (.int .i64 (m : Int))
      have hsz : w.heap.size ≤ w2.heap.size := HK2.out.size
      have ho2' := (Keep.of_below HB3.out (fun _ => False)).own HO2.out (fun _ _ h => h)
      have HO3' : OwnN w3 0 5 .u8 (.slice A3 m m) s1.B := by
        have := own_rebase HO3.out (base' := 0) (fun _ _ => Nat.zero_le _)
        unfold OwnN at this ⊢
        rw [hm] at this ⊢
        exact this
      have ho2'' : OwnN w3 0 5 .u8 (.slice A1 m c1) s1.B := by
        have := ho2'
        unfold OwnN at this ⊢
        rw [hm] at this ⊢
        exact this
      have hfr : ∀ j, (Value.slice A3 m m).ownBlock = some j → w2.heap.size ≤ j ∧ j < w3.heap.size := fun j hj => ⟨own_ge HO3.out j (by rw [hm]; exact hj), own_lt HO3' j hj⟩
      have hsw : w3.heap.size ≤ ((w3.setCell ⟨P, 1, none⟩ (.slice A3 m m)).setCell ⟨P, 2, none⟩ (.int .i64 (m : Int))).heap.size := hkf.size
      refine ⟨rfl, dk_of (s' := ⟨s1.B, s1.B, s1.B.length, s1.dead, s1.failed, s1.inn, s1.keep⟩) (armed := armed) (inn := inn) HBk3.out ho2'' HO3' ?_ hkf (by simpa [hm] using hbf) HAr.out ?_ ?_ ?_, ?_⟩
      · intro j hj hj2
        have h1 := own_lt HO2.out j (by rw [hm]; exact hj)
        have h2 := hfr j hj2
        omega
      · intro j hj
        rcases HF2.out j (by rw [hm]; exact hj) with h | ⟨h1, h2⟩
        · exact .inl h
        · exact .inr ⟨h1, by have := HB3.out.size; omega⟩
      · intro j hj
        have := hfr j hj
        exact .inr ⟨by omega, by omega⟩
      · exact .inl hpF.out
      · exact (HK2.out.below HB3.out).then hkf (fun j hj e => e ▸ hpF.out)
end Jrn
end Go.Proofs.YtihgmlcmdpmhhaaDoor
