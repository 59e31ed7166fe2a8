/- The document's disk: in memory; fail: walked. -/
import Derived.Test.YtihgmlcmdpmhhaaDoorDdr
import Derived.Test.YtihgmlcmdpmhhaaDoorRdr
import Derived.Test.YtihgmlcmdpmhhaaDoorWLast
namespace Go.Proofs.YtihgmlcmdpmhhaaDoor
set_option linter.unusedVariables false
set_option linter.unusedSimpArgs false
namespace Jrn
open Go.RowKit Mem Apn Go.Proofs.YtihgmlcmdpmhhaaDoorW.PrintLast
/-- The document's disk at block Q: its rows are read alone; they lie in blocks of F. -/
structure Rk (w : World) (F : Nat → Prop) (Q : Nat) (s : DS) : Prop where
  ex : ∃ (A1 A2 : Option Addr) (c1 c2 : Nat), Blk w Q 90 #[.slice A1 s.B.length c1, .slice A2 s.D.length c2, .int .i64 s.least, .bool s.dead, .int .i64 s.failed, .int .i64 s.inn, .int .i64 s.keep] ∧
    s.B.length ≤ c1 ∧ s.D.length ≤ c2 ∧ RdN w (fun k => F k ∧ k ≠ Q) .u8 A1 s.B.length s.B ∧ RdN w (fun k => F k ∧ k ≠ Q) .u8 A2 s.D.length s.D
  pF : F Q
theorem Rk.keep_ {w w' : World} {F : Nat → Prop} {Q : Nat} {s : DS} (h : Rk w F Q s) {S : Nat → Prop} (hk : Keep S w w') (hS : ∀ k, F k → ¬ S k) : Rk w' F Q s := by
  obtain ⟨A1, A2, c1, c2, h1, h2, h3, h4, h5⟩ := h.ex
  exact ⟨⟨A1, A2, c1, c2, h1.keep hk (hS Q h.pF), h2, h3, RdV.keep h4 hk (fun k hk => hS k hk.1), RdV.keep h5 hk (fun k hk => hS k hk.1)⟩, h.pF⟩
theorem Rk.mono {w : World} {F F' : Nat → Prop} {Q : Nat} {s : DS} (h : Rk w F Q s) (hF : ∀ k, F k → F' k) : Rk w F' Q s := by
  obtain ⟨A1, A2, c1, c2, h1, h2, h3, h4, h5⟩ := h.ex
  exact ⟨⟨A1, A2, c1, c2, h1, h2, h3, RdV.mono h4 (fun k hk => ⟨hF k hk.1, hk.2⟩), RdV.mono h5 (fun k hk => ⟨hF k hk.1, hk.2⟩)⟩, hF Q h.pF⟩
theorem Rk.lt {w : World} {F : Nat → Prop} {Q : Nat} {s : DS} (h : Rk w F Q s) : Q < w.heap.size := by
  obtain ⟨A1, A2, c1, c2, h1, _⟩ := h.ex
  exact h1.lt
theorem cutH {A : Option Addr} {n c m : Nat} (hm : m ≤ c) (W : World) : (Instr.slice 22 (.slice A n c) none (some (.int .i64 (m : Int))) none).run Tryd.prog W = .ok (.slice A m c) W := by
  have hel : Tryd.prog.elem 22 = 5 := by simp [Program.elem, Tryd.underlying22]
  have hu : Tryd.prog.underlying 22 = some (.slice (Tryd.prog.elem 22)) := by rw [hel]; exact Tryd.underlying22
  rw [run_slice_h W 22 A n c hu .i64 (m : Int) (Int.natCast_nonneg _) (by omega), hel]
  obtain ⟨i0, hi, hz⟩ := Option.map_eq_some_iff.1 Wire.info_size
  cases A <;> simp [sizeOf, typeInfo, hi, hz, sliced, Result.andThen, Addr.add]
  theorem below_drw_ {n : Nat} {w w' : World} (h : Below n w w') : Below n w w'.drew := ⟨h.os, h.tape, h.output, h.size, h.block⟩
/-- A copy, read. -/
theorem cp_rd {w : World} {base : Nat} {v : Value} {xs : List Int} (h : OwnN w base 5 .u8 v xs) : ∃ A c, v = .slice A xs.length c ∧ xs.length ≤ c ∧ RdN w (fun k => base ≤ k ∧ k < w.heap.size) .u8 A xs.length xs := by
  obtain ⟨A, c, rfl, hc, hr⟩ := RdN.of_own h
  exact ⟨A, c, rfl, hc, RdV.mono hr fun k hk => ⟨own_ge h k hk, own_lt h k hk⟩⟩
theorem copy_ (ok : Nat → Prop) (A : Option Addr) (n c : Nat) (xs : List Int) (w : World) (hr : RdN w ok .u8 A n xs) (hl : n ≤ 140737488355300) :
    Calls Tryd.prog 48 #[.slice A n c] w fun e w' => ∃ A' c', e = .returned (.slice A' n c') ∧ n ≤ c' ∧ RdN w' (fun k => w.heap.size ≤ k ∧ k < w'.heap.size) .u8 A' n xs ∧ Below w.heap.size w w' :=
  (Wire.copy_any ok A n c xs w hr hl).mono (by
    rintro e w' ⟨v, rfl, ho, hb⟩
    obtain ⟨A', c', rfl, hc, hr'⟩ := cp_rd ho
    have := hr.len
    rw [this] at hc hr'
    exact ⟨A', c', by rw [this], hc, hr', hb⟩)
set_option maxHeartbeats 4000000 in
set_option maxRecDepth 100000 in
theorem rfail_any (F : Nat → Prop) (Q : Nat) (s : DS) (k : Int) (w : World) (h : Rk w F Q s) (hb : s.B.length ≤ 140737488355300) (hd : s.D.length ≤ 140737488355300) (hle : s.least ≤ s.B.length) (hff : s.failed ≤ 4611686018427387904) (hF : ∀ k, F k → k < w.heap.size) :
    Calls Tryd.prog 69 #[.pointer (some ⟨Q, 0, none⟩), .agg #[.int .i64 k]] w fun e w' => e = .returned (.tuple #[]) ∧ Rk w' (Nw F w w') Q (failS s k) ∧ Keep (fun k => k = Q) w w' := by
  have HD := Held.mk h
  obtain ⟨A1, A2, c1, c2, h1, h2, h3, h4, h5⟩ := h.ex
  obtain ⟨m, hm⟩ : ∃ m, s.B.length = m := ⟨_, rfl⟩
  obtain ⟨md, hmd⟩ : ∃ m, s.D.length = m := ⟨_, rfl⟩
  obtain ⟨l, hl⟩ : ∃ l, s.least = l := ⟨_, rfl⟩
  rw [hm, hmd, hl] at h1
  rw [hm] at h2 h4 hb hle
  rw [hmd] at h3 h5 hd
  rw [hl] at hle
  have hka : Keep (fun _ => False) w (w.alloc (.cells #[.int .i64 k] 71)) := (Keep.refl _ w).alloc _
  have HKa := Held.mk hka
  have HBa := Held.mk (h1.keep hka (fun h => h))
  have q1 := HBa.out.cell 1
  have hra := RdV.keep h5 hka (fun _ _ h => h)
  have HRb := Held.mk (RdV.keep h4 hka (fun _ _ h => h))
  have HCp := Held.mk (copy_ _ A2 md c2 s.D _ hra hd)
  have e0 := (Blk.new w 71 #[.int .i64 k])
  have HE0 := Held.mk e0
  have HPF := Held.mk h.pF
  have HQl := Held.mk h1.lt
  clear h h1 h3 h4 h5 hka hra e0
  by_cases hk : 1 ≤ k
  · have hfs : Held (failS s k = ⟨s.B.take (l + min k.toNat (m - l)), s.B.take (l + min k.toNat (m - l)), (s.B.take (l + min k.toNat (m - l))).length, true, s.failed + 1, 0, s.keep⟩) := ⟨by unfold failS leftS; rw [if_pos hk, hl, hm]⟩
    obtain ⟨nn, hnn⟩ : ∃ nn : Nat, l + min k.toNat (m - l) = nn := ⟨_, rfl⟩
    rw [hnn] at hfs
    have hnm : nn ≤ m := by omega
    have hll : (s.B.take nn).length = nn := by rw [List.length_take]; omega
    have i1 : decide (1 ≤ k) = true := decide_eq_true hk
    by_cases hlt : k < (m : Int) - (l : Int)
    · have i2 : decide (k < (m : Int) - (l : Int)) = true := decide_eq_true hlt
      have hmin : (l : Int) + k = (nn : Int) := by omega
      go_enter Tryd.func69, Tryd.ntmps69
      go_wp2_with fail
      refine HCp.out.mono ?_
      rintro e w1 ⟨A3, c3, rfl, hc3, hr3, hb1⟩
      have HK1 : Held (Keep (fun _ => False) w w1) := ⟨HKa.out.trans (Keep.of_below hb1 (fun _ => False))⟩
      have HB1 := Held.mk (HBa.out.keep (Keep.of_below hb1 (fun _ => False)) (fun h => h))
      have HR3 := Held.mk hr3
      have HE1 := Held.mk (HE0.out.keep (Keep.of_below hb1 (fun _ => False)) (fun h => h))
      have HRb1 := Held.mk (RdV.keep HRb.out (Keep.of_below hb1 (fun _ => False)) (fun _ _ h => h))
      have hsz1 : w.heap.size ≤ w1.heap.size := HK1.out.size
      have hb1s : (w.alloc (.cells #[.int .i64 k] 71)).heap.size = w.heap.size + 1 := by simp
      have ek := HE1.out.cell 0
      have b0 := HB1.out.cell 0
      have b2 := HB1.out.cell 2
      clear hr3 hb1 HCp
      go_wp2_with fail
      go_quiet (fail)
      generalize hz : w1.drewN _ = wq at *
      have HBq : Held (Blk wq Q 90 _) := ⟨hz ▸ HB1.out.drewN _⟩
      have HKq : Held (Keep (fun _ => False) w wq) := ⟨hz ▸ HK1.out.drewN _⟩
      have HEq : Held (Blk wq w.heap.size 71 #[.int .i64 k]) := ⟨hz ▸ HE1.out.drewN _⟩
      have HRq : Held (RdN wq (fun k => F k ∧ k ≠ Q) .u8 A1 m s.B) := ⟨by rw [← hz]; exact HRb1.out⟩
      have ekq := HEq.out.cell 0
      have b0q : wq.cell? ⟨Q, 0, none⟩ = some (.slice A1 m c1) := HBq.out.cell 0
      have b2q : wq.cell? ⟨Q, 2, none⟩ = some (.int .i64 (l : Int)) := HBq.out.cell 2
      clear ek b0 b2 hz
      have hmI : 0 ≤ (nn : Int) ∧ (nn : Int) ≤ (c1 : Int) := ⟨by omega, by omega⟩
      have hw1 : wrap64 ((l : Int) + k) = (nn : Int) := by rw [hmin]; exact IntWalk.wrap64_in _ ⟨by omega, by omega⟩
      have hw2 : IntKind.i64.wrap ((l : Int) + k) = (nn : Int) := by rw [hmin]; exact IntWalk.i64_in _ ⟨by omega, by omega⟩
      have hB : Below wq.heap.size wq wq := Below.refl _ _
      have HCq : Held (∀ W, Below wq.heap.size wq W → Calls Tryd.prog 48 #[.slice A1 nn c1] W fun e w' => ∃ A' c', e = .returned (.slice A' nn c') ∧ nn ≤ c' ∧ RdN w' (fun k => wq.heap.size ≤ k ∧ k < w'.heap.size) .u8 A' nn (s.B.take nn) ∧ Below wq.heap.size wq w') := ⟨fun W hB => by
        have h1 := RdV.front (RdV.keep HRq.out (Keep.of_below hB (fun _ => False)) (fun _ _ h => h)) (k := nn) hnm
        rw [Nat.mul_one] at h1
        have h2 : RdN W (fun k => F k ∧ k ≠ Q) .u8 A1 nn (s.B.take nn) := by
          unfold RdN
          rw [show nums .u8 (s.B.take nn) = (nums .u8 s.B).take nn by simp [nums, List.map_take]]
          exact h1
        exact (copy_ _ A1 nn c1 _ W h2 (by omega)).mono (by
          rintro e w' ⟨A', c', he, hc', hr', hb'⟩
          exact ⟨A', c', he, hc', hr'.mono (fun k hk => ⟨Nat.le_trans hB.size hk.1, hk.2⟩), hB.trans (hb'.mono hB.size)⟩)⟩
      clear hmin hnn
      go_wp2_with fail
      refine start_ (n := 13) (S := fun w' => w'.cell? ⟨Q, 0, none⟩ = some (.slice A1 m c1) ∧ w'.cell? ⟨Q, 2, none⟩ = some (.int .i64 (l : Int))) (ds := []) #[false, false, false, false, false, false, false, false, false, false, false, false, false] (by kernel_rfl) rfl rfl ⟨b0q, b2q⟩ (fun hHeld => ?_)
      refine pure_ (i := 0) (N := some 30) (v := ?_) (a' := ?_) #[true, false, false, false, false, false, false, false, false, false, false, false, false] rfl rfl (by kernel_rfl) (fun _ _ _ h => h) (Or.inl ⟨by rfl, ?_⟩) ?_ ?_
      rotate_left
      · intro w'
        go_simp
        with_reducible rfl
      rotate_left
      · simp only [Act.put, List.setIfInBounds_toArray, List.set_cons_zero, List.set_cons_succ, i64_w, i32_w]
        rfl
      refine pure_ (i := 1) (N := some 31) (v := ?_) (a' := ?_) #[true, true, false, false, false, false, false, false, false, false, false, false, false] rfl rfl (by kernel_rfl) (fun _ _ _ h => h) (Or.inl ⟨by rfl, ?_⟩) ?_ ?_
      rotate_left
      · intro w'
        go_simp
        with_reducible rfl
      rotate_left
      · simp only [Act.put, List.setIfInBounds_toArray, List.set_cons_zero, List.set_cons_succ, i64_w, i32_w]
        rfl
      refine pure_ (i := 2) (N := some 32) (v := ?_) (a' := ?_) #[true, true, true, false, false, false, false, false, false, false, false, false, false] rfl rfl (by kernel_rfl) (fun _ _ _ h => h) (Or.inl ⟨by rfl, ?_⟩) ?_ ?_
      rotate_left
      · intro w'
        go_simp
        with_reducible rfl
      rotate_left
      · simp only [Act.put, List.setIfInBounds_toArray, List.set_cons_zero, List.set_cons_succ, i64_w, i32_w]
        rfl
      refine pure_ (i := 4) (N := some 34) (v := ?_) (a' := ?_) #[true, true, true, false, true, false, false, false, false, false, false, false, false] rfl rfl (by kernel_rfl) (fun _ _ _ h => h) (Or.inl ⟨by rfl, ?_⟩) ?_ ?_
      rotate_left
      · intro w'
        go_simp
        with_reducible rfl
      rotate_left
      · simp only [Act.put, List.setIfInBounds_toArray, List.set_cons_zero, List.set_cons_succ, i64_w, i32_w]
        rfl
      refine pure_ (i := 5) (N := some 35) (v := ?_) (a' := ?_) #[true, true, true, false, true, true, false, false, false, false, false, false, false] rfl rfl (by kernel_rfl) (fun _ _ _ h => h) (Or.inl ⟨by rfl, ?_⟩) ?_ ?_
      rotate_left
      · intro w'
        go_simp
        with_reducible rfl
      rotate_left
      · simp only [Act.put, List.setIfInBounds_toArray, List.set_cons_zero, List.set_cons_succ, i64_w, i32_w]
        rfl
      refine pure_ (i := 6) (N := some 36) (v := ?_) (a' := ?_) #[true, true, true, false, true, true, true, false, false, false, false, false, false] rfl rfl (by kernel_rfl) (fun _ _ _ h => h) (Or.inl ⟨by rfl, ?_⟩) ?_ ?_
      rotate_left
      · intro w'
        go_simp
        with_reducible rfl
      rotate_left
      · simp only [Act.put, List.setIfInBounds_toArray, List.set_cons_zero, List.set_cons_succ, i64_w, i32_w]
        rfl
      refine pure_ (i := 8) (N := some 38) (v := ?_) (a' := ?_) #[true, true, true, false, true, true, true, false, true, false, false, false, false] rfl rfl (by kernel_rfl) (fun _ _ _ h => h) (Or.inl ⟨by rfl, ?_⟩) ?_ ?_
      rotate_left
      · intro w'
        go_simp
        with_reducible rfl
      rotate_left
      · simp only [Act.put, List.setIfInBounds_toArray, List.set_cons_zero, List.set_cons_succ, i64_w, i32_w]
        rfl
      refine take_ (i := 3) (N := some 33) (v := ?_) (a' := ?_) #[true, true, true, true, true, true, true, false, true, false, false, false, false] rfl rfl (by kernel_rfl) (fun _ _ _ h => h) (Or.inl ⟨by rfl, ?_⟩) hHeld ?_ ?_
      rotate_left
      · rintro w' ⟨s0, s1⟩
        go_simp
        with_reducible rfl
      rotate_left
      · simp only [Act.put, List.setIfInBounds_toArray, List.set_cons_zero, List.set_cons_succ, i64_w, i32_w]
        rfl
      refine take_ (i := 7) (N := some 37) (v := ?_) (a' := ?_) #[true, true, true, true, true, true, true, true, true, false, false, false, false] rfl rfl (by kernel_rfl) (fun _ _ _ h => h) (Or.inl ⟨by rfl, ?_⟩) hHeld ?_ ?_
      rotate_left
      · rintro w' ⟨s0, s1⟩
        go_simp
        with_reducible rfl
      rotate_left
      · simp only [Act.put, List.setIfInBounds_toArray, List.set_cons_zero, List.set_cons_succ, i64_w, i32_w]
        rfl
      refine pure_ (i := 9) (N := some 39) (v := ?_) (a' := ?_) #[true, true, true, true, true, true, true, true, true, true, false, false, false] rfl rfl (by kernel_rfl) (fun _ _ _ h => h) (Or.inl ⟨by rfl, ?_⟩) ?_ ?_
      rotate_left
      · intro w'
        go_simp
        with_reducible rfl
      rotate_left
      · simp only [Act.put, List.setIfInBounds_toArray, List.set_cons_zero, List.set_cons_succ, i64_w, i32_w]
        rfl
      refine pure_ (i := 10) (N := some 40) (v := ?_) (a' := ?_) #[true, true, true, true, true, true, true, true, true, true, true, false, false] rfl rfl (by kernel_rfl) (fun _ _ _ h => h) (Or.inl ⟨by rfl, ?_⟩) ?_ ?_
      rotate_left
      · intro w'
        go_simp
        with_reducible rfl
      rotate_left
      · simp only [Act.put, List.setIfInBounds_toArray, List.set_cons_zero, List.set_cons_succ, i64_w, i32_w]
        rfl
      refine one_ (i := 11) (N := some 41) #[true, true, true, true, true, true, true, true, true, true, true, true, false] rfl rfl (by kernel_rfl) (by decide) (fun K hK => ?_)
      refine goes_ Tryd.func48 (by kernel_rfl) rfl #[.slice A1 nn c1] (by rfl) rfl rfl (by simp only [List.map_toArray, List.map_cons, List.map_nil]; rfl) ?_
      with_reducible refine (HCq.out _ (by first | exact hB | exact below_drw_ hB)).mono ?_
      rintro e w4 ⟨A4, c4, rfl, hc4, hr4, hb4⟩
      refine ⟨_, rfl, ?_⟩
      have d0 := (Keep.of_below hb4 (fun _ => False)).cell b0q (fun h => h)
      have d2 := (Keep.of_below hb4 (fun _ => False)).cell b2q (fun h => h)
      refine hK.out _ _ ⟨d0, d2⟩ (fun hHeld => ?_)
      clear hK K
      refine norm_ (a' := ?_) ?_ ?_
      rotate_left
      · show Act.put _ (some 41) _ = _
        simp only [Act.put, List.setIfInBounds_toArray, List.set_cons_zero, List.set_cons_succ, i64_w, i32_w]
        rfl
      refine pure_ (i := 12) (N := some 4) (v := ?_) (a' := ?_) #[true, true, true, true, true, true, true, true, true, true, true, true, true] rfl rfl (by kernel_rfl) (fun _ _ _ h => h) (Or.inl ⟨by rfl, ?_⟩) ?_ ?_
      rotate_left
      · intro w'
        go_simp
        with_reducible rfl
      rotate_left
      · simp only [Act.put, List.setIfInBounds_toArray, List.set_cons_zero, List.set_cons_succ, i64_w, i32_w]
        rfl
      refine done_ (by kernel_rfl) ?_
      have HBz := Held.mk (HBq.out.keep (Keep.of_below hb4 (fun _ => False)) (fun h => h))
      have HKz : Held (Keep (fun _ => False) w w4) := ⟨HKq.out.trans (Keep.of_below hb4 (fun _ => False))⟩
      have HR4 := Held.mk hr4
      have hsq : w.heap.size ≤ wq.heap.size := HKq.out.size
      clear hr4 hb4 d0 d2 HCq b0q b2q ekq hHeld
      have z0 := HBz.out.cell 0
      have z1 := HBz.out.cell 1
      have z2 := HBz.out.cell 2
      have z3 := HBz.out.cell 3
      have z4 := HBz.out.cell 4
      have z5 := HBz.out.cell 5
      have g0 := HBz.out.frozen 0
      have hk0 := kp (P := Q) (i := 0) (w := w4) (.slice A4 nn c4)
      have HB5 := Held.mk (HBz.out.set_ 0 (.slice A4 nn c4))
      have HR5 := Held.mk (RdV.keep HR4.out hk0 (fun j hj e => by have := HQl.out; omega))
      have HC5 := Held.mk (copy_ _ A4 nn c4 (s.B.take nn) _ HR5.out (by omega))
      go_wp2_with fail
      refine HC5.out.mono ?_
      rintro e w6 ⟨A6, c6, rfl, hc6, hr6, hb6⟩
      have HK6 := Held.mk (Keep.of_below hb6 (fun _ => False))
      have HB6 := Held.mk (HB5.out.keep HK6.out (fun h => h))
      have HR6 := Held.mk hr6
      have y1 := HB6.out.cell 1
      have y2 := HB6.out.cell 2
      have y3 := HB6.out.cell 3
      have y4 := HB6.out.cell 4
      have y5 := HB6.out.cell 5
      have f1 := HB6.out.frozen 1
      have f2 := HB6.out.frozen 2
      have f3 := HB6.out.frozen 3
      have f4 := HB6.out.frozen 4
      have f5 := HB6.out.frozen 5
      have hs6 : w4.heap.size ≤ w6.heap.size := by have := hb6.size; simpa using this
      have hr6b := (RdV.keep HR5.out HK6.out (fun _ _ h => h))
      have HR6b := Held.mk hr6b
      clear hr6 hb6 hr6b HC5
      go_wp2_with fail
      go_end0
      have hkf := ((((kp (P := Q) (i := 1) (w := w6) (.slice A6 nn c6)).trans (kp (P := Q) (i := 2) (.int .i64 (nn : Int)))).trans (kp (P := Q) (i := 3) (.bool true))).trans (kp (P := Q) (i := 4) (.int .i64 ((s.failed : Int) + 1)))).trans (kp (P := Q) (i := 5) (.int .i64 0))
      have hbf := ((((HB6.out.set_ 1 (.slice A6 nn c6)).set_ 2 (.int .i64 (nn : Int))).set_ 3 (.bool true)).set_ 4 (.int .i64 ((s.failed : Int) + 1))).set_ 5 (.int .i64 0)
      have hsf := hkf.size
      have hwz := HKz.out.size
      rw [hfs.out]
      refine ⟨rfl, ⟨⟨A4, A6, c4, c6, ?_, ?_, ?_, ?_, ?_⟩, .inl HPF.out⟩, ?_⟩
      · simpa [hll] using hbf
      · rw [hll]; exact hc4
      · rw [hll]; exact hc6
      · rw [hll]
        exact (RdV.keep HR6b.out hkf (fun j hj e => by have := HQl.out; omega)).mono (fun j hj => ⟨.inr ⟨by omega, by omega⟩, by have := HQl.out; omega⟩)
      · rw [hll]
        have hsz0 : (w4.setCell ⟨Q, 0, none⟩ (.slice A4 nn c4)).heap.size = w4.heap.size := by simp
        exact (RdV.keep HR6.out hkf (fun j hj e => by have := HQl.out; omega)).mono (fun j hj => ⟨.inr ⟨by omega, by omega⟩, by have := HQl.out; omega⟩)
      · exact (((HKz.out.mono (fun _ _ h => h.elim)).trans hk0).trans (HK6.out.mono (fun _ _ h => h.elim))).trans hkf
    · have i2 : decide (k < (m : Int) - (l : Int)) = false := decide_eq_false hlt
      have hmin : (l : Int) + ((m : Int) - (l : Int)) = (nn : Int) := by omega
      go_enter Tryd.func69, Tryd.ntmps69
      go_wp2_with fail
      refine HCp.out.mono ?_
      rintro e w1 ⟨A3, c3, rfl, hc3, hr3, hb1⟩
      have HK1 : Held (Keep (fun _ => False) w w1) := ⟨HKa.out.trans (Keep.of_below hb1 (fun _ => False))⟩
      have HB1 := Held.mk (HBa.out.keep (Keep.of_below hb1 (fun _ => False)) (fun h => h))
      have HR3 := Held.mk hr3
      have HE1 := Held.mk (HE0.out.keep (Keep.of_below hb1 (fun _ => False)) (fun h => h))
      have HRb1 := Held.mk (RdV.keep HRb.out (Keep.of_below hb1 (fun _ => False)) (fun _ _ h => h))
      have hsz1 : w.heap.size ≤ w1.heap.size := HK1.out.size
      have hb1s : (w.alloc (.cells #[.int .i64 k] 71)).heap.size = w.heap.size + 1 := by simp
      have ek := HE1.out.cell 0
      have b0 := HB1.out.cell 0
      have b2 := HB1.out.cell 2
      clear hr3 hb1 HCp
      go_wp2_with fail
      go_quiet (fail)
      generalize hz : w1.drewN _ = wq at *
      have HBq : Held (Blk wq Q 90 _) := ⟨hz ▸ HB1.out.drewN _⟩
      have HKq : Held (Keep (fun _ => False) w wq) := ⟨hz ▸ HK1.out.drewN _⟩
      have HEq : Held (Blk wq w.heap.size 71 #[.int .i64 k]) := ⟨hz ▸ HE1.out.drewN _⟩
      have HRq : Held (RdN wq (fun k => F k ∧ k ≠ Q) .u8 A1 m s.B) := ⟨by rw [← hz]; exact HRb1.out⟩
      have ekq := HEq.out.cell 0
      have b0q : wq.cell? ⟨Q, 0, none⟩ = some (.slice A1 m c1) := HBq.out.cell 0
      have b2q : wq.cell? ⟨Q, 2, none⟩ = some (.int .i64 (l : Int)) := HBq.out.cell 2
      clear ek b0 b2 hz
      have hmI : 0 ≤ (nn : Int) ∧ (nn : Int) ≤ (c1 : Int) := ⟨by omega, by omega⟩
      have hw1 : wrap64 ((l : Int) + ((m : Int) - (l : Int))) = (nn : Int) := by rw [hmin]; exact IntWalk.wrap64_in _ ⟨by omega, by omega⟩
      have hw2 : IntKind.i64.wrap ((l : Int) + ((m : Int) - (l : Int))) = (nn : Int) := by rw [hmin]; exact IntWalk.i64_in _ ⟨by omega, by omega⟩
      have hB : Below wq.heap.size wq wq := Below.refl _ _
      have HCq : Held (∀ W, Below wq.heap.size wq W → Calls Tryd.prog 48 #[.slice A1 nn c1] W fun e w' => ∃ A' c', e = .returned (.slice A' nn c') ∧ nn ≤ c' ∧ RdN w' (fun k => wq.heap.size ≤ k ∧ k < w'.heap.size) .u8 A' nn (s.B.take nn) ∧ Below wq.heap.size wq w') := ⟨fun W hB => by
        have h1 := RdV.front (RdV.keep HRq.out (Keep.of_below hB (fun _ => False)) (fun _ _ h => h)) (k := nn) hnm
        rw [Nat.mul_one] at h1
        have h2 : RdN W (fun k => F k ∧ k ≠ Q) .u8 A1 nn (s.B.take nn) := by
          unfold RdN
          rw [show nums .u8 (s.B.take nn) = (nums .u8 s.B).take nn by simp [nums, List.map_take]]
          exact h1
        exact (copy_ _ A1 nn c1 _ W h2 (by omega)).mono (by
          rintro e w' ⟨A', c', he, hc', hr', hb'⟩
          exact ⟨A', c', he, hc', hr'.mono (fun k hk => ⟨Nat.le_trans hB.size hk.1, hk.2⟩), hB.trans (hb'.mono hB.size)⟩)⟩
      clear hmin hnn
      go_wp2_with fail
      refine start_ (n := 13) (S := fun w' => w'.cell? ⟨Q, 0, none⟩ = some (.slice A1 m c1) ∧ w'.cell? ⟨Q, 2, none⟩ = some (.int .i64 (l : Int))) (ds := []) #[false, false, false, false, false, false, false, false, false, false, false, false, false] (by kernel_rfl) rfl rfl ⟨b0q, b2q⟩ (fun hHeld => ?_)
      refine pure_ (i := 0) (N := some 30) (v := ?_) (a' := ?_) #[true, false, false, false, false, false, false, false, false, false, false, false, false] rfl rfl (by kernel_rfl) (fun _ _ _ h => h) (Or.inl ⟨by rfl, ?_⟩) ?_ ?_
      rotate_left
      · intro w'
        go_simp
        with_reducible rfl
      rotate_left
      · simp only [Act.put, List.setIfInBounds_toArray, List.set_cons_zero, List.set_cons_succ, i64_w, i32_w]
        rfl
      refine pure_ (i := 1) (N := some 31) (v := ?_) (a' := ?_) #[true, true, false, false, false, false, false, false, false, false, false, false, false] rfl rfl (by kernel_rfl) (fun _ _ _ h => h) (Or.inl ⟨by rfl, ?_⟩) ?_ ?_
      rotate_left
      · intro w'
        go_simp
        with_reducible rfl
      rotate_left
      · simp only [Act.put, List.setIfInBounds_toArray, List.set_cons_zero, List.set_cons_succ, i64_w, i32_w]
        rfl
      refine pure_ (i := 2) (N := some 32) (v := ?_) (a' := ?_) #[true, true, true, false, false, false, false, false, false, false, false, false, false] rfl rfl (by kernel_rfl) (fun _ _ _ h => h) (Or.inl ⟨by rfl, ?_⟩) ?_ ?_
      rotate_left
      · intro w'
        go_simp
        with_reducible rfl
      rotate_left
      · simp only [Act.put, List.setIfInBounds_toArray, List.set_cons_zero, List.set_cons_succ, i64_w, i32_w]
        rfl
      refine pure_ (i := 4) (N := some 34) (v := ?_) (a' := ?_) #[true, true, true, false, true, false, false, false, false, false, false, false, false] rfl rfl (by kernel_rfl) (fun _ _ _ h => h) (Or.inl ⟨by rfl, ?_⟩) ?_ ?_
      rotate_left
      · intro w'
        go_simp
        with_reducible rfl
      rotate_left
      · simp only [Act.put, List.setIfInBounds_toArray, List.set_cons_zero, List.set_cons_succ, i64_w, i32_w]
        rfl
      refine pure_ (i := 5) (N := some 35) (v := ?_) (a' := ?_) #[true, true, true, false, true, true, false, false, false, false, false, false, false] rfl rfl (by kernel_rfl) (fun _ _ _ h => h) (Or.inl ⟨by rfl, ?_⟩) ?_ ?_
      rotate_left
      · intro w'
        go_simp
        with_reducible rfl
      rotate_left
      · simp only [Act.put, List.setIfInBounds_toArray, List.set_cons_zero, List.set_cons_succ, i64_w, i32_w]
        rfl
      refine pure_ (i := 6) (N := some 36) (v := ?_) (a' := ?_) #[true, true, true, false, true, true, true, false, false, false, false, false, false] rfl rfl (by kernel_rfl) (fun _ _ _ h => h) (Or.inl ⟨by rfl, ?_⟩) ?_ ?_
      rotate_left
      · intro w'
        go_simp
        with_reducible rfl
      rotate_left
      · simp only [Act.put, List.setIfInBounds_toArray, List.set_cons_zero, List.set_cons_succ, i64_w, i32_w]
        rfl
      refine pure_ (i := 8) (N := some 38) (v := ?_) (a' := ?_) #[true, true, true, false, true, true, true, false, true, false, false, false, false] rfl rfl (by kernel_rfl) (fun _ _ _ h => h) (Or.inl ⟨by rfl, ?_⟩) ?_ ?_
      rotate_left
      · intro w'
        go_simp
        with_reducible rfl
      rotate_left
      · simp only [Act.put, List.setIfInBounds_toArray, List.set_cons_zero, List.set_cons_succ, i64_w, i32_w]
        rfl
      refine take_ (i := 3) (N := some 33) (v := ?_) (a' := ?_) #[true, true, true, true, true, true, true, false, true, false, false, false, false] rfl rfl (by kernel_rfl) (fun _ _ _ h => h) (Or.inl ⟨by rfl, ?_⟩) hHeld ?_ ?_
      rotate_left
      · rintro w' ⟨s0, s1⟩
        go_simp
        with_reducible rfl
      rotate_left
      · simp only [Act.put, List.setIfInBounds_toArray, List.set_cons_zero, List.set_cons_succ, i64_w, i32_w]
        rfl
      refine take_ (i := 7) (N := some 37) (v := ?_) (a' := ?_) #[true, true, true, true, true, true, true, true, true, false, false, false, false] rfl rfl (by kernel_rfl) (fun _ _ _ h => h) (Or.inl ⟨by rfl, ?_⟩) hHeld ?_ ?_
      rotate_left
      · rintro w' ⟨s0, s1⟩
        go_simp
        with_reducible rfl
      rotate_left
      · simp only [Act.put, List.setIfInBounds_toArray, List.set_cons_zero, List.set_cons_succ, i64_w, i32_w]
        rfl
      refine pure_ (i := 9) (N := some 39) (v := ?_) (a' := ?_) #[true, true, true, true, true, true, true, true, true, true, false, false, false] rfl rfl (by kernel_rfl) (fun _ _ _ h => h) (Or.inl ⟨by rfl, ?_⟩) ?_ ?_
      rotate_left
      · intro w'
        go_simp
        with_reducible rfl
      rotate_left
      · simp only [Act.put, List.setIfInBounds_toArray, List.set_cons_zero, List.set_cons_succ, i64_w, i32_w]
        rfl
      refine pure_ (i := 10) (N := some 40) (v := ?_) (a' := ?_) #[true, true, true, true, true, true, true, true, true, true, true, false, false] rfl rfl (by kernel_rfl) (fun _ _ _ h => h) (Or.inl ⟨by rfl, ?_⟩) ?_ ?_
      rotate_left
      · intro w'
        go_simp
        with_reducible rfl
      rotate_left
      · simp only [Act.put, List.setIfInBounds_toArray, List.set_cons_zero, List.set_cons_succ, i64_w, i32_w]
        rfl
      refine one_ (i := 11) (N := some 41) #[true, true, true, true, true, true, true, true, true, true, true, true, false] rfl rfl (by kernel_rfl) (by decide) (fun K hK => ?_)
      refine goes_ Tryd.func48 (by kernel_rfl) rfl #[.slice A1 nn c1] (by rfl) rfl rfl (by simp only [List.map_toArray, List.map_cons, List.map_nil]; rfl) ?_
      with_reducible refine (HCq.out _ (by first | exact hB | exact below_drw_ hB)).mono ?_
      rintro e w4 ⟨A4, c4, rfl, hc4, hr4, hb4⟩
      refine ⟨_, rfl, ?_⟩
      have d0 := (Keep.of_below hb4 (fun _ => False)).cell b0q (fun h => h)
      have d2 := (Keep.of_below hb4 (fun _ => False)).cell b2q (fun h => h)
      refine hK.out _ _ ⟨d0, d2⟩ (fun hHeld => ?_)
      clear hK K
      refine norm_ (a' := ?_) ?_ ?_
      rotate_left
      · show Act.put _ (some 41) _ = _
        simp only [Act.put, List.setIfInBounds_toArray, List.set_cons_zero, List.set_cons_succ, i64_w, i32_w]
        rfl
      refine pure_ (i := 12) (N := some 4) (v := ?_) (a' := ?_) #[true, true, true, true, true, true, true, true, true, true, true, true, true] rfl rfl (by kernel_rfl) (fun _ _ _ h => h) (Or.inl ⟨by rfl, ?_⟩) ?_ ?_
      rotate_left
      · intro w'
        go_simp
        with_reducible rfl
      rotate_left
      · simp only [Act.put, List.setIfInBounds_toArray, List.set_cons_zero, List.set_cons_succ, i64_w, i32_w]
        rfl
      refine done_ (by kernel_rfl) ?_
      have HBz := Held.mk (HBq.out.keep (Keep.of_below hb4 (fun _ => False)) (fun h => h))
      have HKz : Held (Keep (fun _ => False) w w4) := ⟨HKq.out.trans (Keep.of_below hb4 (fun _ => False))⟩
      have HR4 := Held.mk hr4
      have hsq : w.heap.size ≤ wq.heap.size := HKq.out.size
      clear hr4 hb4 d0 d2 HCq b0q b2q ekq hHeld
      have z0 := HBz.out.cell 0
      have z1 := HBz.out.cell 1
      have z2 := HBz.out.cell 2
      have z3 := HBz.out.cell 3
      have z4 := HBz.out.cell 4
      have z5 := HBz.out.cell 5
      have g0 := HBz.out.frozen 0
      have hk0 := kp (P := Q) (i := 0) (w := w4) (.slice A4 nn c4)
      have HB5 := Held.mk (HBz.out.set_ 0 (.slice A4 nn c4))
      have HR5 := Held.mk (RdV.keep HR4.out hk0 (fun j hj e => by have := HQl.out; omega))
      have HC5 := Held.mk (copy_ _ A4 nn c4 (s.B.take nn) _ HR5.out (by omega))
      go_wp2_with fail
      refine HC5.out.mono ?_
      rintro e w6 ⟨A6, c6, rfl, hc6, hr6, hb6⟩
      have HK6 := Held.mk (Keep.of_below hb6 (fun _ => False))
      have HB6 := Held.mk (HB5.out.keep HK6.out (fun h => h))
      have HR6 := Held.mk hr6
      have y1 := HB6.out.cell 1
      have y2 := HB6.out.cell 2
      have y3 := HB6.out.cell 3
      have y4 := HB6.out.cell 4
      have y5 := HB6.out.cell 5
      have f1 := HB6.out.frozen 1
      have f2 := HB6.out.frozen 2
      have f3 := HB6.out.frozen 3
      have f4 := HB6.out.frozen 4
      have f5 := HB6.out.frozen 5
      have hs6 : w4.heap.size ≤ w6.heap.size := by have := hb6.size; simpa using this
      have hr6b := (RdV.keep HR5.out HK6.out (fun _ _ h => h))
      have HR6b := Held.mk hr6b
      clear hr6 hb6 hr6b HC5
      go_wp2_with fail
      go_end0
      have hkf := ((((kp (P := Q) (i := 1) (w := w6) (.slice A6 nn c6)).trans (kp (P := Q) (i := 2) (.int .i64 (nn : Int)))).trans (kp (P := Q) (i := 3) (.bool true))).trans (kp (P := Q) (i := 4) (.int .i64 ((s.failed : Int) + 1)))).trans (kp (P := Q) (i := 5) (.int .i64 0))
      have hbf := ((((HB6.out.set_ 1 (.slice A6 nn c6)).set_ 2 (.int .i64 (nn : Int))).set_ 3 (.bool true)).set_ 4 (.int .i64 ((s.failed : Int) + 1))).set_ 5 (.int .i64 0)
      have hsf := hkf.size
      have hwz := HKz.out.size
      rw [hfs.out]
      refine ⟨rfl, ⟨⟨A4, A6, c4, c6, ?_, ?_, ?_, ?_, ?_⟩, .inl HPF.out⟩, ?_⟩
      · simpa [hll] using hbf
      · rw [hll]; exact hc4
      · rw [hll]; exact hc6
      · rw [hll]
        exact (RdV.keep HR6b.out hkf (fun j hj e => by have := HQl.out; omega)).mono (fun j hj => ⟨.inr ⟨by omega, by omega⟩, by have := HQl.out; omega⟩)
      · rw [hll]
        have hsz0 : (w4.setCell ⟨Q, 0, none⟩ (.slice A4 nn c4)).heap.size = w4.heap.size := by simp
        exact (RdV.keep HR6.out hkf (fun j hj e => by have := HQl.out; omega)).mono (fun j hj => ⟨.inr ⟨by omega, by omega⟩, by have := HQl.out; omega⟩)
      · exact (((HKz.out.mono (fun _ _ h => h.elim)).trans hk0).trans (HK6.out.mono (fun _ _ h => h.elim))).trans hkf
  · have hfs : Held (failS s k = ⟨s.D, s.D, s.D.length, true, s.failed + 1, 0, s.keep⟩) := ⟨by unfold failS leftS; rw [if_neg hk]⟩
    have i1 : decide (1 ≤ k) = false := decide_eq_false hk
    have hll := hmd
    go_enter Tryd.func69, Tryd.ntmps69
    go_wp2_with fail
    refine HCp.out.mono ?_
    rintro e w1 ⟨A3, c3, rfl, hc3, hr3, hb1⟩
    have HK1 : Held (Keep (fun _ => False) w w1) := ⟨HKa.out.trans (Keep.of_below hb1 (fun _ => False))⟩
    have HB1 := Held.mk (HBa.out.keep (Keep.of_below hb1 (fun _ => False)) (fun h => h))
    have HR3 := Held.mk hr3
    have HE1 := Held.mk (HE0.out.keep (Keep.of_below hb1 (fun _ => False)) (fun h => h))
    have HRb1 := Held.mk (RdV.keep HRb.out (Keep.of_below hb1 (fun _ => False)) (fun _ _ h => h))
    have hsz1 : w.heap.size ≤ w1.heap.size := HK1.out.size
    have hb1s : (w.alloc (.cells #[.int .i64 k] 71)).heap.size = w.heap.size + 1 := by simp
    have ek := HE1.out.cell 0
    have b0 := HB1.out.cell 0
    have b2 := HB1.out.cell 2
    clear hr3 hb1 HCp
    have HBz := HB1
    have HKz := HK1
    have hc4 := hc3
    have z0 := HBz.out.cell 0
    have z1 := HBz.out.cell 1
    have z2 := HBz.out.cell 2
    have z3 := HBz.out.cell 3
    have z4 := HBz.out.cell 4
    have z5 := HBz.out.cell 5
    have g0 := HBz.out.frozen 0
    have hk0 := kp (P := Q) (i := 0) (w := w1) (.slice A3 md c3)
    have HB5 := Held.mk (HBz.out.set_ 0 (.slice A3 md c3))
    have HR5 := Held.mk (RdV.keep HR3.out hk0 (fun j hj e => by have := HQl.out; omega))
    have HC5 := Held.mk (copy_ _ A3 md c3 (s.D) _ HR5.out (by omega))
    go_wp2_with fail
    refine HC5.out.mono ?_
    rintro e w6 ⟨A6, c6, rfl, hc6, hr6, hb6⟩
    have HK6 := Held.mk (Keep.of_below hb6 (fun _ => False))
    have HB6 := Held.mk (HB5.out.keep HK6.out (fun h => h))
    have HR6 := Held.mk hr6
    have y1 := HB6.out.cell 1
    have y2 := HB6.out.cell 2
    have y3 := HB6.out.cell 3
    have y4 := HB6.out.cell 4
    have y5 := HB6.out.cell 5
    have f1 := HB6.out.frozen 1
    have f2 := HB6.out.frozen 2
    have f3 := HB6.out.frozen 3
    have f4 := HB6.out.frozen 4
    have f5 := HB6.out.frozen 5
    have hs6 : w1.heap.size ≤ w6.heap.size := by have := hb6.size; simpa using this
    have hr6b := (RdV.keep HR5.out HK6.out (fun _ _ h => h))
    have HR6b := Held.mk hr6b
    clear hr6 hb6 hr6b HC5
    go_wp2_with fail
    go_end0
    have hkf := ((((kp (P := Q) (i := 1) (w := w6) (.slice A6 md c6)).trans (kp (P := Q) (i := 2) (.int .i64 (md : Int)))).trans (kp (P := Q) (i := 3) (.bool true))).trans (kp (P := Q) (i := 4) (.int .i64 ((s.failed : Int) + 1)))).trans (kp (P := Q) (i := 5) (.int .i64 0))
    have hbf := ((((HB6.out.set_ 1 (.slice A6 md c6)).set_ 2 (.int .i64 (md : Int))).set_ 3 (.bool true)).set_ 4 (.int .i64 ((s.failed : Int) + 1))).set_ 5 (.int .i64 0)
    have hsf := hkf.size
    have hwz := HKz.out.size
    rw [hfs.out]
    refine ⟨rfl, ⟨⟨A3, A6, c3, c6, ?_, ?_, ?_, ?_, ?_⟩, .inl HPF.out⟩, ?_⟩
    · simpa [hll] using hbf
    · rw [hll]; exact hc4
    · rw [hll]; exact hc6
    · rw [hll]
      exact (RdV.keep HR6b.out hkf (fun j hj e => by have := HQl.out; omega)).mono (fun j hj => ⟨.inr ⟨by omega, by omega⟩, by have := HQl.out; omega⟩)
    · rw [hll]
      have hsz0 : (w1.setCell ⟨Q, 0, none⟩ (.slice A3 md c3)).heap.size = w1.heap.size := by simp
      exact (RdV.keep HR6.out hkf (fun j hj e => by have := HQl.out; omega)).mono (fun j hj => ⟨.inr ⟨by omega, by omega⟩, by have := HQl.out; omega⟩)
    · exact (((HKz.out.mono (fun _ _ h => h.elim)).trans hk0).trans (HK6.out.mono (fun _ _ h => h.elim))).trans hkf
end Jrn
end Go.Proofs.YtihgmlcmdpmhhaaDoor
