/- CalendarSteps: the walk. -/
import Derived.Test.YtlnkdgjlbpldpaaShown
namespace Go.Proofs.Ytlnkdgjlbpldpaa
set_option linter.unusedVariables false
set_option linter.unusedSimpArgs false
namespace Cal
open Go.RowKit Mem Go.Proofs.YtlnkdgjlbpldpaaW.PrintLast Go.Maps

/-! Plain. -/
def addV : Option Int → Value
  | some y => .tuple #[.int .i64 y, .nilIface]
  | none => .tuple #[.int .i64 0, noDayV]
theorem add_opt {B : Int → Bool} {n k : Int} {w w' : World} {e : Ending} (h : addRes B n k w e w') : ∃ r, e = .returned (addV r) ∧ AddR B n k r ∧ Below w.heap.size w w' := by
  rcases h with ⟨y, rfl, h, hb⟩ | ⟨rfl, h, hb⟩
  · exact ⟨some y, rfl, h, hb⟩
  · exact ⟨none, rfl, h, hb⟩
theorem up_fit {B : Int → Bool} {n k : Int} {r : Option Int} (h : AddR B n k r) (hn : isD n) (hk : 0 < k) : (∀ y, r = some y → isD y ∧ B y = true ∧ FB B y = FB B n + k) ∧ (r = none → FB B 3652059 < FB B n + k) := by
  refine ⟨fun y hy => ?_, fun hy => ?_⟩
  · obtain ⟨h1, _, h2, _⟩ := h.yes y hy
    exact ⟨h1, h2 hk⟩
  · rcases h.no hy with h | h | h
    · exact absurd hn h
    · exact h.2
    · omega
theorem dn_fit {B : Int → Bool} {n k : Int} {r : Option Int} (h : AddR B n k r) (hn : isD n) (hk : k < 0) : (∀ y, r = some y → isD y ∧ B y = true ∧ FB B (y - 1) = FB B (n - 1) + k) ∧ (r = none → FB B (n - 1) + k < 0) := by
  refine ⟨fun y hy => ?_, fun hy => ?_⟩
  · obtain ⟨h1, _, _, h2⟩ := h.yes y hy
    exact ⟨h1, h2 hk⟩
  · rcases h.no hy with h | h | h
    · exact absurd hn h
    · omega
    · exact h.2
theorem FB_top (B : Int → Bool) {y : Int} (h : isD y) : FB B y ≤ FB B 3652059 := (FB_le B (by have := h.1; omega) h.2).1
theorem FB_of {B : Int → Bool} {y : Int} (h : isD y) (hb : B y = true) : FB B y = FB B (y - 1) + 1 := by
  have := FB_pred B y h.1
  rw [hb] at this
  simpa [bit] using this
theorem FB_inj' (B : Int → Bool) {x y : Int} (hx : isD x) (hy : isD y) (bx : B x = true) (by_ : B y = true) (h : FB B (x - 1) = FB B (y - 1)) : x = y :=
  FB_inj B hx.1 hy.1 bx by_ (by rw [FB_of hx bx, FB_of hy by_, h])
theorem CalW.drew {w : World} {g b : Nat} {wk : List Bool} {l : List Int} (h : CalW w g b wk l) : CalW w.drew g b wk l := by
  obtain ⟨n, hn, hm⟩ := h.map
  exact ⟨h.day, h.ptr, n, hn, hm.drew⟩
theorem up1 {B : Int → Bool} {n a b : Int} {r : Option Int} (hn : isD n) (ha : 1 ≤ a) (hb : 1 ≤ b) (h1 : AddR B n a none) (h2 : AddR B n (a + b) r) : r = none := by
  have f1 := (up_fit h1 hn (by omega)).2 rfl
  have f2 := (up_fit h2 hn (by omega)).1
  cases r with
  | none => rfl
  | some y =>
    obtain ⟨h3, h4, h5⟩ := f2 y rfl
    have := FB_top B h3
    omega
theorem up2 {B : Int → Bool} {n a b x : Int} {r s : Option Int} (hn : isD n) (ha : 1 ≤ a) (hb : 1 ≤ b) (h1 : AddR B n a (some x)) (h2 : AddR B n (a + b) r) (h3 : AddR B x b s) : r = s ∧ B x = true ∧ isD x ∧ a ≤ x - n := by
  obtain ⟨x1, x2, x3⟩ := (up_fit h1 hn (by omega)).1 x rfl
  have f2 := up_fit h2 hn (by omega)
  have f3 := up_fit h3 x1 (by omega)
  refine ⟨?_, x2, x1, ?_⟩
  · cases r with
    | none =>
      cases s with
      | none => rfl
      | some y =>
        obtain ⟨h5, h6, h7⟩ := f3.1 y rfl
        have := FB_top B h5
        have := f2.2 rfl
        omega
    | some y =>
      obtain ⟨h5, h6, h7⟩ := f2.1 y rfl
      cases s with
      | none =>
        have := FB_top B h5
        have := f3.2 rfl
        omega
      | some z =>
        obtain ⟨h8, h9, h10⟩ := f3.1 z rfl
        rw [FB_inj B h5.1 h8.1 h6 h9 (by omega)]
  · by_cases hl : n ≤ x
    · have := (FB_le B (a := n) (b := x) (by have := hn.1; omega) hl).2
      omega
    · have := (FB_le B (a := x) (b := n) (by have := x1.1; omega) (by omega)).1
      omega
theorem up3 {B : Int → Bool} {n a x : Int} {r : Option Int} (hn : isD n) (ha : 1 ≤ a) (hbn : B n = true) (h1 : AddR B n a (some x)) (h2 : AddR B x (-a) r) : r = some n := by
  obtain ⟨x1, x2, x3⟩ := (up_fit h1 hn (by omega)).1 x rfl
  have f2 := dn_fit h2 x1 (by omega)
  have e1 := FB_of x1 x2
  have e2 := FB_of hn hbn
  have e3 := FB_nn B (a := n - 1) (by have := hn.1; omega)
  cases r with
  | none => have := f2.2 rfl; omega
  | some y =>
    obtain ⟨h5, h6, h7⟩ := f2.1 y rfl
    rw [FB_inj' B h5 hn h6 hbn (by omega)]
theorem dn1 {B : Int → Bool} {n a b : Int} {r : Option Int} (hn : isD n) (ha : 1 ≤ a) (hb : 1 ≤ b) (h1 : AddR B n (-a) none) (h2 : AddR B n (-(a + b)) r) : r = none := by
  have f1 := (dn_fit h1 hn (by omega)).2 rfl
  have f2 := (dn_fit h2 hn (by omega)).1
  cases r with
  | none => rfl
  | some y =>
    obtain ⟨h3, h4, h5⟩ := f2 y rfl
    have := FB_nn B (a := y - 1) (by have := h3.1; omega)
    omega
theorem dn2 {B : Int → Bool} {n a b x : Int} {r s : Option Int} (hn : isD n) (ha : 1 ≤ a) (hb : 1 ≤ b) (h1 : AddR B n (-a) (some x)) (h2 : AddR B n (-(a + b)) r) (h3 : AddR B x (-b) s) : r = s ∧ B x = true ∧ isD x ∧ a ≤ n - x := by
  obtain ⟨x1, x2, x3⟩ := (dn_fit h1 hn (by omega)).1 x rfl
  have f2 := dn_fit h2 hn (by omega)
  have f3 := dn_fit h3 x1 (by omega)
  refine ⟨?_, x2, x1, ?_⟩
  · cases r with
    | none =>
      cases s with
      | none => rfl
      | some y =>
        obtain ⟨h5, h6, h7⟩ := f3.1 y rfl
        have := FB_nn B (a := y - 1) (by have := h5.1; omega)
        have := f2.2 rfl
        omega
    | some y =>
      obtain ⟨h5, h6, h7⟩ := f2.1 y rfl
      cases s with
      | none =>
        have := FB_nn B (a := y - 1) (by have := h5.1; omega)
        have := f3.2 rfl
        omega
      | some z =>
        obtain ⟨h8, h9, h10⟩ := f3.1 z rfl
        rw [FB_inj' B h5 h8 h6 h9 (by omega)]
  · by_cases hl : x ≤ n
    · have := (FB_le B (a := x - 1) (b := n - 1) (by have := x1.1; omega) (by omega)).2
      omega
    · have := (FB_le B (a := n - 1) (b := x - 1) (by have := hn.1; omega) (by omega)).1
      omega
theorem dn3 {B : Int → Bool} {n a x : Int} {r : Option Int} (hn : isD n) (ha : 1 ≤ a) (hbn : B n = true) (h1 : AddR B n (-a) (some x)) (h2 : AddR B x a r) : r = some n := by
  obtain ⟨x1, x2, x3⟩ := (dn_fit h1 hn (by omega)).1 x rfl
  have f2 := up_fit h2 x1 (by omega)
  have e1 := FB_of x1 x2
  have e2 := FB_of hn hbn
  have e3 := FB_top B hn
  cases r with
  | none => have := f2.2 rfl; omega
  | some y =>
    obtain ⟨h5, h6, h7⟩ := f2.1 y rfl
    rw [FB_inj B h5.1 hn.1 h6 hbn (by omega)]
theorem up4 {B : Int → Bool} {n a x : Int} (hn : isD n) (ha : 1 ≤ a) (h1 : AddR B n a (some x)) : FB B (x - 1) - FB B (n - 1) = a - 1 + bit (B n) ∧ n ≤ x ∧ isD x := by
  obtain ⟨x1, x2, x3⟩ := (up_fit h1 hn (by omega)).1 x rfl
  have e1 := FB_of x1 x2
  have e2 := FB_pred B n hn.1
  refine ⟨by omega, ?_, x1⟩
  by_cases hl : n ≤ x
  · exact hl
  · have := (FB_le B (a := x) (b := n) (by have := x1.1; omega) (by omega)).1
    omega
theorem up5 {B : Int → Bool} {n a b x : Int} (hn : isD n) (ha : 1 ≤ a) (hb : 1 ≤ b) (h1 : AddR B n a (some x)) : 1 ≤ FB B (x + b - 1) - FB B (x - 1) ∧ FB B (x + b - 1) - FB B (x - 1) ≤ b := by
  obtain ⟨x1, x2, x3⟩ := (up_fit h1 hn (by omega)).1 x rfl
  have e1 := FB_of x1 x2
  have h2 := FB_le B (a := x) (b := x + b - 1) (by have := x1.1; omega) (by omega)
  have h3 := FB_le B (a := x - 1) (b := x + b - 1) (by have := x1.1; omega) (by omega)
  omega

set_option maxHeartbeats 16000000 in
set_option maxRecDepth 1000000 in
theorem steps_any (b0 b1 b2 b3 b4 b5 b6 : Bool) (A : Option Addr) (n0 c0 : Nat) (xs : List Int) (n1 a1 q1 : Int) (w : World) (hr : RdN w (fun k => k < w.heap.size) .i64 A n0 xs) (hwf : ∀ x ∈ xs, (Lit.int .i64 x).wf = true) (hn0 : n0 ≤ 17592186043904)
    (hn1 : I64 n1) (ha1 : I64 a1) (hq1 : I64 q1) :
    Calls Try.prog 5 #[.agg #[.bool b0, .bool b1, .bool b2, .bool b3, .bool b4, .bool b5, .bool b6, .slice A n0 c0], .int .i64 n1, .int .i64 a1, .int .i64 q1] w fun e w' => e = .returned (.bool true) ∧ Below w.heap.size w w' := by
  have Hr := Held.mk hr
  have Hwf := Held.mk hwf
  have Hn1 := Held.mk hn1
  have Ha1 := Held.mk ha1
  have Hq1 := Held.mk hq1
  clear hr hwf hn1 ha1 hq1
  have HB0 : Held (Below w.heap.size w (w.alloc (.cells #[.bool b0, .bool b1, .bool b2, .bool b3, .bool b4, .bool b5, .bool b6, .slice A n0 c0] 41))) := ⟨(Below.refl _ _).alloc (Nat.le_refl _) _⟩
  have Hr0 : Held (RdN (w.alloc (.cells #[.bool b0, .bool b1, .bool b2, .bool b3, .bool b4, .bool b5, .bool b6, .slice A n0 c0] 41)) (fun k => k < (w.alloc (.cells #[.bool b0, .bool b1, .bool b2, .bool b3, .bool b4, .bool b5, .bool b6, .slice A n0 c0] 41)).heap.size) .i64 A n0 xs) := ⟨(RdV.mono (Hr.out.keep (Keep.of_below HB0.out (fun _ => False)) (fun _ _ h => h)) (fun k hk => by simp; omega))⟩
  generalize hW0 : w.heap.size = W0 at *
  have HW0 := Held.mk hW0
  clear hW0
  go_enter Try.func5, Try.ntmps5
  go_wp2_with fail
  generalize w.alloc (.cells #[.bool b0, .bool b1, .bool b2, .bool b3, .bool b4, .bool b5, .bool b6, .slice A n0 c0] 41) = wA at *
  refine (new_any b0 b1 b2 b3 b4 b5 b6 A n0 c0 xs wA Hr0.out Hwf.out hn0).mono ?_
  rintro e w1 ⟨g, bb, rfl, hg, hbb, hC, hb⟩
  have HB1 : Held (Below W0 w w1) := ⟨HB0.out.trans (hb.mono (by have := HB0.out.size; rw [HW0.out] at this; exact this))⟩
  have HC1 := Held.mk hC
  clear hb hC hg hbb HB0 Hr0 Hr Hwf
  generalize [b0, b1, b2, b3, b4, b5, b6] = wk at *
  go_wp2_with fail
  refine (shown_any _).mono ?_
  rintro e w2 ⟨rfl, hb⟩
  have HB2 : Held (Below W0 w w2) := ⟨HB1.out.trans (hb.mono (by have := HB1.out.size; rw [HW0.out] at this; exact this))⟩
  have HC2 := Held.mk (HC1.out.below hb)
  clear hb HB1 HC1
  go_wp2_with fail
  refine (first_any n1 3652059 w2 Hn1.out (by decide) (by decide)).mono ?_
  rintro e w3 ⟨rfl, rfl⟩
  obtain ⟨n, hn⟩ : ∃ n, 1 + n1 % 3652059 = n := ⟨_, rfl⟩
  have hnd : isD n := by unfold isD; omega
  rw [hn]
  clear hn
  go_wp2_with fail
  refine (first_any a1 300 w2 Ha1.out (by decide) (by decide)).mono ?_
  rintro e w3 ⟨rfl, rfl⟩
  obtain ⟨a, ha⟩ : ∃ a, 1 + a1 % 300 = a := ⟨_, rfl⟩
  have ha1' : 1 ≤ a := by omega
  have ha2 : a ≤ 300 := by omega
  rw [ha]
  clear ha
  go_wp2_with fail
  refine (first_any q1 300 w2 Hq1.out (by decide) (by decide)).mono ?_
  rintro e w3 ⟨rfl, rfl⟩
  obtain ⟨q, hq⟩ : ∃ q, 1 + q1 % 300 = q := ⟨_, rfl⟩
  have hq1' : 1 ≤ q := by omega
  have hq2 : q ≤ 300 := by omega
  rw [hq]
  clear hq Hn1 Ha1 Hq1
  have Hnd := Held.mk hnd
  obtain ⟨hnd1, hnd2⟩ := hnd
  go_wp2
  go_loopw [10] (fun u wr => ∃ s : Int, u = .int .i64 s ∧ (s = -1 ∨ s = 1 ∨ s = 3) ∧ Held (CalW wr g bb wk xs) ∧ Held (Below W0 w wr)) (fun u _ => (3 - intOf u).toNat)
  case atStart => exact ⟨-1, rfl, by omega, HC2, HB2⟩
  case round =>
    obtain ⟨s, rfl, hs, HC, HB⟩ := hrel
    clear HC2 HB2
    rcases hs with rfl | rfl | rfl
    · go_wp2_with fail
      refine (add_any g bb wk xs n (-a) wr HC.out (by omega)).mono ?_
      intro e x1 hadd
      obtain ⟨r1, rfl, hA1, hb⟩ := add_opt hadd
      have HB1 : Held (Below W0 w x1) := ⟨HB.out.trans (hb.mono (by have := HB.out.size; rw [HW0.out] at this; exact this))⟩
      have HC1 := Held.mk (HC.out.below hb)
      have HA1 := Held.mk hA1
      clear hadd hb hA1 HB HC
      cases r1 with
      | none =>
        unfold addV
        go_wp2_with fail
        refine (add_any g bb wk xs n (-(a + q)) x1 HC1.out (by omega)).mono ?_
        intro e x2 hadd
        obtain ⟨r2, rfl, hA2, hb⟩ := add_opt hadd
        have HB2 : Held (Below W0 w x2) := ⟨HB1.out.trans (hb.mono (by have := HB1.out.size; rw [HW0.out] at this; exact this))⟩
        have HC2 := Held.mk (HC1.out.below hb)
        have HA2 := Held.mk hA2
        clear hadd hb hA2 HB1 HC1
        obtain rfl := dn1 Hnd.out ha1' hq1' HA1.out HA2.out
        unfold addV noDayV
        go_wp2
        go_roundw
        case rel => exact ⟨1, by first | rfl | go_num, by omega, HC2, HB2⟩
        case measure => simp [intOf]
      | some x =>
        simp only [addV]
        go_wp2_with fail
        refine (add_any g bb wk xs n (-(a + q)) x1 HC1.out (by omega)).mono ?_
        intro e x2 hadd
        obtain ⟨r2, rfl, hA2, hb⟩ := add_opt hadd
        have HB2 : Held (Below W0 w x2) := ⟨HB1.out.trans (hb.mono (by have := HB1.out.size; rw [HW0.out] at this; exact this))⟩
        have HC2 := Held.mk (HC1.out.below hb)
        have HA2 := Held.mk hA2
        clear hadd hb hA2 HB1 HC1
        have hxd : isD x := (HA1.out.yes x rfl).1
        obtain ⟨hxd1, hxd2⟩ := hxd
        have hr2 : addV r2 = addV r2 := rfl
        clear hr2
        rcases r2 with _ | z
        · simp only [addV, noDayV]
          go_wp2_with fail
          refine (add_any g bb wk xs x (-q) x2 HC2.out (by omega)).mono ?_
          intro e x3 hadd
          obtain ⟨r3, rfl, hA3, hb⟩ := add_opt hadd
          have HB3 : Held (Below W0 w x3) := ⟨HB2.out.trans (hb.mono (by have := HB2.out.size; rw [HW0.out] at this; exact this))⟩
          have HC3 := Held.mk (HC2.out.below hb)
          have HA3 := Held.mk hA3
          clear hadd hb hA3 HB2 HC2
          obtain ⟨hrr, hbx, hxd, hle⟩ := dn2 Hnd.out ha1' hq1' HA1.out HA2.out HA3.out
          subst hrr
          have Hxd := Held.mk hxd
          clear hxd
          simp only [addV, noDayV]
          have hw1 : wrap64 (x - n) = x - n := IntWalk.wrap64_in _ (by omega)
          have hcmp : decide (wrap64 (-wrap64 (x - n)) < a) = false := decide_eq_false (by rw [hw1, IntWalk.wrap64_in _ (by omega)]; omega)
          clear hw1
          go_wp2_with fail
          refine start_ (n := 25) (S := fun w' => True) (ds := []) #[false, false, false, false, false, false, false, false, false, false, false, false, false, false, false, false, false, false, false, false, false, false, false, false, false] (by kernel_rfl) rfl rfl trivial (fun hHeld => ?_)
          refine pure_ (i := 0) (N := some 81) (v := ?_) (a' := ?_) #[true, false, false, false, false, false, false, false, false, false, false, false, false, false, false, false, false, false, false, false, false, false, false, false, false] rfl rfl (by kernel_rfl) (fun _ _ _ h => h) (Or.inl ⟨by rfl, ?_⟩) ?_ ?_
          rotate_left
          · intro w'
            go_simp
            with_reducible rfl
          rotate_left
          · simp only [Act.put, List.setIfInBounds_toArray, List.set_cons_zero, List.set_cons_succ, i64_w, i32_w]
            rfl
          refine pure_ (i := 1) (N := some 82) (v := ?_) (a' := ?_) #[true, true, false, false, false, false, false, false, false, false, false, false, false, false, false, false, false, false, false, false, false, false, false, false, false] rfl rfl (by kernel_rfl) (fun _ _ _ h => h) (Or.inl ⟨by rfl, ?_⟩) ?_ ?_
          rotate_left
          · intro w'
            go_simp
            with_reducible rfl
          rotate_left
          · simp only [Act.put, List.setIfInBounds_toArray, List.set_cons_zero, List.set_cons_succ, i64_w, i32_w]
            rfl
          refine pure_ (i := 2) (N := some 83) (v := ?_) (a' := ?_) #[true, true, true, false, false, false, false, false, false, false, false, false, false, false, false, false, false, false, false, false, false, false, false, false, false] rfl rfl (by kernel_rfl) (fun _ _ _ h => h) (Or.inl ⟨by rfl, ?_⟩) ?_ ?_
          rotate_left
          · intro w'
            go_simp
            with_reducible rfl
          rotate_left
          · simp only [Act.put, List.setIfInBounds_toArray, List.set_cons_zero, List.set_cons_succ, i64_w, i32_w]
            rfl
          refine pure_ (i := 3) (N := some 84) (v := ?_) (a' := ?_) #[true, true, true, true, false, false, false, false, false, false, false, false, false, false, false, false, false, false, false, false, false, false, false, false, false] rfl rfl (by kernel_rfl) (fun _ _ _ h => h) (Or.inl ⟨by rfl, ?_⟩) ?_ ?_
          rotate_left
          · intro w'
            go_simp
            with_reducible rfl
          rotate_left
          · simp only [Act.put, List.setIfInBounds_toArray, List.set_cons_zero, List.set_cons_succ, i64_w, i32_w]
            rfl
          refine pure_ (i := 4) (N := some 85) (v := ?_) (a' := ?_) #[true, true, true, true, true, false, false, false, false, false, false, false, false, false, false, false, false, false, false, false, false, false, false, false, false] rfl rfl (by kernel_rfl) (fun _ _ _ h => h) (Or.inl ⟨by rfl, ?_⟩) ?_ ?_
          rotate_left
          · intro w'
            go_simp
            with_reducible rfl
          rotate_left
          · simp only [Act.put, List.setIfInBounds_toArray, List.set_cons_zero, List.set_cons_succ, i64_w, i32_w]
            rfl
          refine pure_ (i := 5) (N := some 86) (v := ?_) (a' := ?_) #[true, true, true, true, true, true, false, false, false, false, false, false, false, false, false, false, false, false, false, false, false, false, false, false, false] rfl rfl (by kernel_rfl) (fun _ _ _ h => h) (Or.inl ⟨by rfl, ?_⟩) ?_ ?_
          rotate_left
          · intro w'
            go_simp
            with_reducible rfl
          rotate_left
          · simp only [Act.put, List.setIfInBounds_toArray, List.set_cons_zero, List.set_cons_succ, i64_w, i32_w]
            rfl
          refine pure_ (i := 6) (N := some 87) (v := ?_) (a' := ?_) #[true, true, true, true, true, true, true, false, false, false, false, false, false, false, false, false, false, false, false, false, false, false, false, false, false] rfl rfl (by kernel_rfl) (fun _ _ _ h => h) (Or.inl ⟨by rfl, ?_⟩) ?_ ?_
          rotate_left
          · intro w'
            go_simp
            with_reducible rfl
          rotate_left
          · simp only [Act.put, List.setIfInBounds_toArray, List.set_cons_zero, List.set_cons_succ, i64_w, i32_w]
            rfl
          refine pure_ (i := 7) (N := some 88) (v := ?_) (a' := ?_) #[true, true, true, true, true, true, true, true, false, false, false, false, false, false, false, false, false, false, false, false, false, false, false, false, false] rfl rfl (by kernel_rfl) (fun _ _ _ h => h) (Or.inl ⟨by rfl, ?_⟩) ?_ ?_
          rotate_left
          · intro w'
            go_simp
            with_reducible rfl
          rotate_left
          · simp only [Act.put, List.setIfInBounds_toArray, List.set_cons_zero, List.set_cons_succ, i64_w, i32_w]
            rfl
          refine pure_ (i := 8) (N := some 89) (v := ?_) (a' := ?_) #[true, true, true, true, true, true, true, true, true, false, false, false, false, false, false, false, false, false, false, false, false, false, false, false, false] rfl rfl (by kernel_rfl) (fun _ _ _ h => h) (Or.inl ⟨by rfl, ?_⟩) ?_ ?_
          rotate_left
          · intro w'
            go_simp
            with_reducible rfl
          rotate_left
          · simp only [Act.put, List.setIfInBounds_toArray, List.set_cons_zero, List.set_cons_succ, i64_w, i32_w]
            rfl
          refine pure_ (i := 9) (N := some 90) (v := ?_) (a' := ?_) #[true, true, true, true, true, true, true, true, true, true, false, false, false, false, false, false, false, false, false, false, false, false, false, false, false] rfl rfl (by kernel_rfl) (fun _ _ _ h => h) (Or.inl ⟨by rfl, ?_⟩) ?_ ?_
          rotate_left
          · intro w'
            go_simp
            with_reducible rfl
          rotate_left
          · simp only [Act.put, List.setIfInBounds_toArray, List.set_cons_zero, List.set_cons_succ, i64_w, i32_w]
            rfl
          refine pure_ (i := 10) (N := some 91) (v := ?_) (a' := ?_) #[true, true, true, true, true, true, true, true, true, true, true, false, false, false, false, false, false, false, false, false, false, false, false, false, false] rfl rfl (by kernel_rfl) (fun _ _ _ h => h) (Or.inl ⟨by rfl, ?_⟩) ?_ ?_
          rotate_left
          · intro w'
            go_simp
            with_reducible rfl
          rotate_left
          · simp only [Act.put, List.setIfInBounds_toArray, List.set_cons_zero, List.set_cons_succ, i64_w, i32_w]
            rfl
          refine pure_ (i := 11) (N := some 92) (v := ?_) (a' := ?_) #[true, true, true, true, true, true, true, true, true, true, true, true, false, false, false, false, false, false, false, false, false, false, false, false, false] rfl rfl (by kernel_rfl) (fun _ _ _ h => h) (Or.inl ⟨by rfl, ?_⟩) ?_ ?_
          rotate_left
          · intro w'
            go_simp
            with_reducible rfl
          rotate_left
          · simp only [Act.put, List.setIfInBounds_toArray, List.set_cons_zero, List.set_cons_succ, i64_w, i32_w]
            rfl
          refine pure_ (i := 12) (N := some 93) (v := ?_) (a' := ?_) #[true, true, true, true, true, true, true, true, true, true, true, true, true, false, false, false, false, false, false, false, false, false, false, false, false] rfl rfl (by kernel_rfl) (fun _ _ _ h => h) (Or.inl ⟨by rfl, ?_⟩) ?_ ?_
          rotate_left
          · intro w'
            go_simp
            with_reducible rfl
          rotate_left
          · simp only [Act.put, List.setIfInBounds_toArray, List.set_cons_zero, List.set_cons_succ, i64_w, i32_w]
            rfl
          refine one_ (i := 13) (N := some 94) #[true, true, true, true, true, true, true, true, true, true, true, true, true, true, false, false, false, false, false, false, false, false, false, false, false] rfl rfl (by kernel_rfl) (by decide) (fun K hK => ?_)
          refine goes_ Try.func17 (by kernel_rfl) rfl #[.pointer (some ⟨g, 0, none⟩), .int .i64 x] (by rfl) rfl rfl (by simp only [List.map_toArray, List.map_cons, List.map_nil]; rfl) ?_
          with_reducible refine (business_any g bb wk xs x _ HC3.out.drew).mono ?_
          rintro e x4 ⟨rfl, hb⟩
          refine ⟨_, rfl, ?_⟩
          have HB4 : Held (Below W0 w x4) := ⟨HB3.out.drew.trans (hb.mono (by have := HB3.out.size; rw [HW0.out] at this; exact this))⟩
          have HC4 := Held.mk (HC3.out.drew.below hb)
          clear hb HB3 HC3
          rw [hbx]
          refine hK.out _ _ trivial (fun hHeld => ?_)
          clear hK K
          refine norm_ (a' := ?_) ?_ ?_
          rotate_left
          · show Act.put _ (some 94) _ = _
            simp only [Act.put, List.setIfInBounds_toArray, List.set_cons_zero, List.set_cons_succ, i64_w, i32_w]
            rfl
          refine pure_ (i := 14) (N := some 95) (v := ?_) (a' := ?_) #[true, true, true, true, true, true, true, true, true, true, true, true, true, true, true, false, false, false, false, false, false, false, false, false, false] rfl rfl (by kernel_rfl) (fun _ _ _ h => h) (Or.inl ⟨by rfl, ?_⟩) ?_ ?_
          rotate_left
          · intro w'
            go_simp
            with_reducible rfl
          rotate_left
          · simp only [Act.put, List.setIfInBounds_toArray, List.set_cons_zero, List.set_cons_succ, i64_w, i32_w]
            rfl
          refine pure_ (i := 15) (N := some 96) (v := ?_) (a' := ?_) #[true, true, true, true, true, true, true, true, true, true, true, true, true, true, true, true, false, false, false, false, false, false, false, false, false] rfl rfl (by kernel_rfl) (fun _ _ _ h => h) (Or.inl ⟨by rfl, ?_⟩) ?_ ?_
          rotate_left
          · intro w'
            go_simp
            with_reducible rfl
          rotate_left
          · simp only [Act.put, List.setIfInBounds_toArray, List.set_cons_zero, List.set_cons_succ, i64_w, i32_w]
            rfl
          refine pure_ (i := 16) (N := some 97) (v := ?_) (a' := ?_) #[true, true, true, true, true, true, true, true, true, true, true, true, true, true, true, true, true, false, false, false, false, false, false, false, false] rfl rfl (by kernel_rfl) (fun _ _ _ h => h) (Or.inl ⟨by rfl, ?_⟩) ?_ ?_
          rotate_left
          · intro w'
            go_simp
            with_reducible rfl
          rotate_left
          · simp only [Act.put, List.setIfInBounds_toArray, List.set_cons_zero, List.set_cons_succ, i64_w, i32_w]
            rfl
          refine pure_ (i := 17) (N := some 98) (v := ?_) (a' := ?_) #[true, true, true, true, true, true, true, true, true, true, true, true, true, true, true, true, true, true, false, false, false, false, false, false, false] rfl rfl (by kernel_rfl) (fun _ _ _ h => h) (Or.inl ⟨by rfl, ?_⟩) ?_ ?_
          rotate_left
          · intro w'
            go_simp
            with_reducible rfl
          rotate_left
          · simp only [Act.put, List.setIfInBounds_toArray, List.set_cons_zero, List.set_cons_succ, i64_w, i32_w]
            rfl
          refine pure_ (i := 18) (N := some 99) (v := ?_) (a' := ?_) #[true, true, true, true, true, true, true, true, true, true, true, true, true, true, true, true, true, true, true, false, false, false, false, false, false] rfl rfl (by kernel_rfl) (fun _ _ _ h => h) (Or.inl ⟨by rfl, ?_⟩) ?_ ?_
          rotate_left
          · intro w'
            go_simp
            with_reducible rfl
          rotate_left
          · simp only [Act.put, List.setIfInBounds_toArray, List.set_cons_zero, List.set_cons_succ, i64_w, i32_w]
            rfl
          refine pure_ (i := 19) (N := some 100) (v := ?_) (a' := ?_) #[true, true, true, true, true, true, true, true, true, true, true, true, true, true, true, true, true, true, true, true, false, false, false, false, false] rfl rfl (by kernel_rfl) (fun _ _ _ h => h) (Or.inl ⟨by rfl, ?_⟩) ?_ ?_
          rotate_left
          · intro w'
            go_simp
            with_reducible rfl
          rotate_left
          · simp only [Act.put, List.setIfInBounds_toArray, List.set_cons_zero, List.set_cons_succ, i64_w, i32_w]
            rfl
          refine pure_ (i := 20) (N := some 101) (v := ?_) (a' := ?_) #[true, true, true, true, true, true, true, true, true, true, true, true, true, true, true, true, true, true, true, true, true, false, false, false, false] rfl rfl (by kernel_rfl) (fun _ _ _ h => h) (Or.inl ⟨by rfl, ?_⟩) ?_ ?_
          rotate_left
          · intro w'
            go_simp
            with_reducible rfl
          rotate_left
          · simp only [Act.put, List.setIfInBounds_toArray, List.set_cons_zero, List.set_cons_succ, i64_w, i32_w]
            rfl
          refine pure_ (i := 21) (N := some 102) (v := ?_) (a' := ?_) #[true, true, true, true, true, true, true, true, true, true, true, true, true, true, true, true, true, true, true, true, true, true, false, false, false] rfl rfl (by kernel_rfl) (fun _ _ _ h => h) (Or.inl ⟨by rfl, ?_⟩) ?_ ?_
          rotate_left
          · intro w'
            go_simp
            with_reducible rfl
          rotate_left
          · simp only [Act.put, List.setIfInBounds_toArray, List.set_cons_zero, List.set_cons_succ, i64_w, i32_w]
            rfl
          refine pure_ (i := 22) (N := some 103) (v := ?_) (a' := ?_) #[true, true, true, true, true, true, true, true, true, true, true, true, true, true, true, true, true, true, true, true, true, true, true, false, false] rfl rfl (by kernel_rfl) (fun _ _ _ h => h) (Or.inl ⟨by rfl, ?_⟩) ?_ ?_
          rotate_left
          · intro w'
            go_simp
            with_reducible rfl
          rotate_left
          · simp only [Act.put, List.setIfInBounds_toArray, List.set_cons_zero, List.set_cons_succ, i64_w, i32_w]
            rfl
          refine pure_ (i := 23) (N := some 104) (v := ?_) (a' := ?_) #[true, true, true, true, true, true, true, true, true, true, true, true, true, true, true, true, true, true, true, true, true, true, true, true, false] rfl rfl (by kernel_rfl) (fun _ _ _ h => h) (Or.inl ⟨by rfl, ?_⟩) ?_ ?_
          rotate_left
          · intro w'
            go_simp
            with_reducible rfl
          rotate_left
          · simp only [Act.put, List.setIfInBounds_toArray, List.set_cons_zero, List.set_cons_succ, i64_w, i32_w]
            rfl
          refine pure_ (i := 24) (N := some 105) (v := ?_) (a' := ?_) #[true, true, true, true, true, true, true, true, true, true, true, true, true, true, true, true, true, true, true, true, true, true, true, true, true] rfl rfl (by kernel_rfl) (fun _ _ _ h => h) (Or.inl ⟨by rfl, ?_⟩) ?_ ?_
          rotate_left
          · intro w'
            go_simp
            with_reducible rfl
          rotate_left
          · simp only [Act.put, List.setIfInBounds_toArray, List.set_cons_zero, List.set_cons_succ, i64_w, i32_w]
            rfl
          refine done_ (by kernel_rfl) ?_
          go_wp2_with fail
          refine (business_any g bb wk xs n x4 HC4.out).mono ?_
          rintro e x5 ⟨rfl, hb⟩
          have HB5 : Held (Below W0 w x5) := ⟨HB4.out.trans (hb.mono (by have := HB4.out.size; rw [HW0.out] at this; exact this))⟩
          have HC5 := Held.mk (HC4.out.below hb)
          clear hb HB4 HC4
          have HR : Held (busB wk xs n = true ∨ busB wk xs n = false) := ⟨by cases busB wk xs n <;> simp⟩
          rcases HR.out with hr | hr
          · have Hr := Held.mk hr
            rw [hr]
            clear hr HR
            go_wp2_with fail
            refine (add_any g bb wk xs x a x5 HC5.out (by omega)).mono ?_
            intro e x6 hadd
            obtain ⟨r4, rfl, hA6, hb⟩ := add_opt hadd
            have HB6 : Held (Below W0 w x6) := ⟨HB5.out.trans (hb.mono (by have := HB5.out.size; rw [HW0.out] at this; exact this))⟩
            have HC6 := Held.mk (HC5.out.below hb)
            have HA6 := Held.mk hA6
            clear hadd hb hA6 HB5 HC5
            obtain rfl := dn3 Hnd.out ha1' Hr.out HA1.out HA6.out
            simp only [addV]
            go_wp2
            go_roundw
            case rel => exact ⟨1, by first | rfl | go_num, by omega, HC6, HB6⟩
            case measure => simp [intOf]
          · rw [hr]
            clear hr HR
            go_wp2
            go_roundw
            case rel => exact ⟨1, by first | rfl | go_num, by omega, HC5, HB5⟩
            case measure => simp [intOf]
        · simp only [addV]
          go_wp2_with fail
          refine (add_any g bb wk xs x (-q) x2 HC2.out (by omega)).mono ?_
          intro e x3 hadd
          obtain ⟨r3, rfl, hA3, hb⟩ := add_opt hadd
          have HB3 : Held (Below W0 w x3) := ⟨HB2.out.trans (hb.mono (by have := HB2.out.size; rw [HW0.out] at this; exact this))⟩
          have HC3 := Held.mk (HC2.out.below hb)
          have HA3 := Held.mk hA3
          clear hadd hb hA3 HB2 HC2
          obtain ⟨hrr, hbx, hxd, hle⟩ := dn2 Hnd.out ha1' hq1' HA1.out HA2.out HA3.out
          subst hrr
          have Hxd := Held.mk hxd
          clear hxd
          simp only [addV]
          have hw1 : wrap64 (x - n) = x - n := IntWalk.wrap64_in _ (by omega)
          have hcmp : decide (wrap64 (-wrap64 (x - n)) < a) = false := decide_eq_false (by rw [hw1, IntWalk.wrap64_in _ (by omega)]; omega)
          clear hw1
          go_wp2_with fail
          refine start_ (n := 25) (S := fun w' => True) (ds := []) #[false, false, false, false, false, false, false, false, false, false, false, false, false, false, false, false, false, false, false, false, false, false, false, false, false] (by kernel_rfl) rfl rfl trivial (fun hHeld => ?_)
          refine pure_ (i := 0) (N := some 81) (v := ?_) (a' := ?_) #[true, false, false, false, false, false, false, false, false, false, false, false, false, false, false, false, false, false, false, false, false, false, false, false, false] rfl rfl (by kernel_rfl) (fun _ _ _ h => h) (Or.inl ⟨by rfl, ?_⟩) ?_ ?_
          rotate_left
          · intro w'
            go_simp
            with_reducible rfl
          rotate_left
          · simp only [Act.put, List.setIfInBounds_toArray, List.set_cons_zero, List.set_cons_succ, i64_w, i32_w]
            rfl
          refine pure_ (i := 1) (N := some 82) (v := ?_) (a' := ?_) #[true, true, false, false, false, false, false, false, false, false, false, false, false, false, false, false, false, false, false, false, false, false, false, false, false] rfl rfl (by kernel_rfl) (fun _ _ _ h => h) (Or.inl ⟨by rfl, ?_⟩) ?_ ?_
          rotate_left
          · intro w'
            go_simp
            with_reducible rfl
          rotate_left
          · simp only [Act.put, List.setIfInBounds_toArray, List.set_cons_zero, List.set_cons_succ, i64_w, i32_w]
            rfl
          refine pure_ (i := 2) (N := some 83) (v := ?_) (a' := ?_) #[true, true, true, false, false, false, false, false, false, false, false, false, false, false, false, false, false, false, false, false, false, false, false, false, false] rfl rfl (by kernel_rfl) (fun _ _ _ h => h) (Or.inl ⟨by rfl, ?_⟩) ?_ ?_
          rotate_left
          · intro w'
            go_simp
            with_reducible rfl
          rotate_left
          · simp only [Act.put, List.setIfInBounds_toArray, List.set_cons_zero, List.set_cons_succ, i64_w, i32_w]
            rfl
          refine pure_ (i := 3) (N := some 84) (v := ?_) (a' := ?_) #[true, true, true, true, false, false, false, false, false, false, false, false, false, false, false, false, false, false, false, false, false, false, false, false, false] rfl rfl (by kernel_rfl) (fun _ _ _ h => h) (Or.inl ⟨by rfl, ?_⟩) ?_ ?_
          rotate_left
          · intro w'
            go_simp
            with_reducible rfl
          rotate_left
          · simp only [Act.put, List.setIfInBounds_toArray, List.set_cons_zero, List.set_cons_succ, i64_w, i32_w]
            rfl
          refine pure_ (i := 4) (N := some 85) (v := ?_) (a' := ?_) #[true, true, true, true, true, false, false, false, false, false, false, false, false, false, false, false, false, false, false, false, false, false, false, false, false] rfl rfl (by kernel_rfl) (fun _ _ _ h => h) (Or.inl ⟨by rfl, ?_⟩) ?_ ?_
          rotate_left
          · intro w'
            go_simp
            with_reducible rfl
          rotate_left
          · simp only [Act.put, List.setIfInBounds_toArray, List.set_cons_zero, List.set_cons_succ, i64_w, i32_w]
            rfl
          refine pure_ (i := 5) (N := some 86) (v := ?_) (a' := ?_) #[true, true, true, true, true, true, false, false, false, false, false, false, false, false, false, false, false, false, false, false, false, false, false, false, false] rfl rfl (by kernel_rfl) (fun _ _ _ h => h) (Or.inl ⟨by rfl, ?_⟩) ?_ ?_
          rotate_left
          · intro w'
            go_simp
            with_reducible rfl
          rotate_left
          · simp only [Act.put, List.setIfInBounds_toArray, List.set_cons_zero, List.set_cons_succ, i64_w, i32_w]
            rfl
          refine pure_ (i := 6) (N := some 87) (v := ?_) (a' := ?_) #[true, true, true, true, true, true, true, false, false, false, false, false, false, false, false, false, false, false, false, false, false, false, false, false, false] rfl rfl (by kernel_rfl) (fun _ _ _ h => h) (Or.inl ⟨by rfl, ?_⟩) ?_ ?_
          rotate_left
          · intro w'
            go_simp
            with_reducible rfl
          rotate_left
          · simp only [Act.put, List.setIfInBounds_toArray, List.set_cons_zero, List.set_cons_succ, i64_w, i32_w]
            rfl
          refine pure_ (i := 7) (N := some 88) (v := ?_) (a' := ?_) #[true, true, true, true, true, true, true, true, false, false, false, false, false, false, false, false, false, false, false, false, false, false, false, false, false] rfl rfl (by kernel_rfl) (fun _ _ _ h => h) (Or.inl ⟨by rfl, ?_⟩) ?_ ?_
          rotate_left
          · intro w'
            go_simp
            with_reducible rfl
          rotate_left
          · simp only [Act.put, List.setIfInBounds_toArray, List.set_cons_zero, List.set_cons_succ, i64_w, i32_w]
            rfl
          refine pure_ (i := 8) (N := some 89) (v := ?_) (a' := ?_) #[true, true, true, true, true, true, true, true, true, false, false, false, false, false, false, false, false, false, false, false, false, false, false, false, false] rfl rfl (by kernel_rfl) (fun _ _ _ h => h) (Or.inl ⟨by rfl, ?_⟩) ?_ ?_
          rotate_left
          · intro w'
            go_simp
            with_reducible rfl
          rotate_left
          · simp only [Act.put, List.setIfInBounds_toArray, List.set_cons_zero, List.set_cons_succ, i64_w, i32_w]
            rfl
          refine pure_ (i := 9) (N := some 90) (v := ?_) (a' := ?_) #[true, true, true, true, true, true, true, true, true, true, false, false, false, false, false, false, false, false, false, false, false, false, false, false, false] rfl rfl (by kernel_rfl) (fun _ _ _ h => h) (Or.inl ⟨by rfl, ?_⟩) ?_ ?_
          rotate_left
          · intro w'
            go_simp
            with_reducible rfl
          rotate_left
          · simp only [Act.put, List.setIfInBounds_toArray, List.set_cons_zero, List.set_cons_succ, i64_w, i32_w]
            rfl
          refine pure_ (i := 10) (N := some 91) (v := ?_) (a' := ?_) #[true, true, true, true, true, true, true, true, true, true, true, false, false, false, false, false, false, false, false, false, false, false, false, false, false] rfl rfl (by kernel_rfl) (fun _ _ _ h => h) (Or.inl ⟨by rfl, ?_⟩) ?_ ?_
          rotate_left
          · intro w'
            go_simp
            with_reducible rfl
          rotate_left
          · simp only [Act.put, List.setIfInBounds_toArray, List.set_cons_zero, List.set_cons_succ, i64_w, i32_w]
            rfl
          refine pure_ (i := 11) (N := some 92) (v := ?_) (a' := ?_) #[true, true, true, true, true, true, true, true, true, true, true, true, false, false, false, false, false, false, false, false, false, false, false, false, false] rfl rfl (by kernel_rfl) (fun _ _ _ h => h) (Or.inl ⟨by rfl, ?_⟩) ?_ ?_
          rotate_left
          · intro w'
            go_simp
            with_reducible rfl
          rotate_left
          · simp only [Act.put, List.setIfInBounds_toArray, List.set_cons_zero, List.set_cons_succ, i64_w, i32_w]
            rfl
          refine pure_ (i := 12) (N := some 93) (v := ?_) (a' := ?_) #[true, true, true, true, true, true, true, true, true, true, true, true, true, false, false, false, false, false, false, false, false, false, false, false, false] rfl rfl (by kernel_rfl) (fun _ _ _ h => h) (Or.inl ⟨by rfl, ?_⟩) ?_ ?_
          rotate_left
          · intro w'
            go_simp
            with_reducible rfl
          rotate_left
          · simp only [Act.put, List.setIfInBounds_toArray, List.set_cons_zero, List.set_cons_succ, i64_w, i32_w]
            rfl
          refine one_ (i := 13) (N := some 94) #[true, true, true, true, true, true, true, true, true, true, true, true, true, true, false, false, false, false, false, false, false, false, false, false, false] rfl rfl (by kernel_rfl) (by decide) (fun K hK => ?_)
          refine goes_ Try.func17 (by kernel_rfl) rfl #[.pointer (some ⟨g, 0, none⟩), .int .i64 x] (by rfl) rfl rfl (by simp only [List.map_toArray, List.map_cons, List.map_nil]; rfl) ?_
          with_reducible refine (business_any g bb wk xs x _ HC3.out.drew).mono ?_
          rintro e x4 ⟨rfl, hb⟩
          refine ⟨_, rfl, ?_⟩
          have HB4 : Held (Below W0 w x4) := ⟨HB3.out.drew.trans (hb.mono (by have := HB3.out.size; rw [HW0.out] at this; exact this))⟩
          have HC4 := Held.mk (HC3.out.drew.below hb)
          clear hb HB3 HC3
          rw [hbx]
          refine hK.out _ _ trivial (fun hHeld => ?_)
          clear hK K
          refine norm_ (a' := ?_) ?_ ?_
          rotate_left
          · show Act.put _ (some 94) _ = _
            simp only [Act.put, List.setIfInBounds_toArray, List.set_cons_zero, List.set_cons_succ, i64_w, i32_w]
            rfl
          refine pure_ (i := 14) (N := some 95) (v := ?_) (a' := ?_) #[true, true, true, true, true, true, true, true, true, true, true, true, true, true, true, false, false, false, false, false, false, false, false, false, false] rfl rfl (by kernel_rfl) (fun _ _ _ h => h) (Or.inl ⟨by rfl, ?_⟩) ?_ ?_
          rotate_left
          · intro w'
            go_simp
            with_reducible rfl
          rotate_left
          · simp only [Act.put, List.setIfInBounds_toArray, List.set_cons_zero, List.set_cons_succ, i64_w, i32_w]
            rfl
          refine pure_ (i := 15) (N := some 96) (v := ?_) (a' := ?_) #[true, true, true, true, true, true, true, true, true, true, true, true, true, true, true, true, false, false, false, false, false, false, false, false, false] rfl rfl (by kernel_rfl) (fun _ _ _ h => h) (Or.inl ⟨by rfl, ?_⟩) ?_ ?_
          rotate_left
          · intro w'
            go_simp
            with_reducible rfl
          rotate_left
          · simp only [Act.put, List.setIfInBounds_toArray, List.set_cons_zero, List.set_cons_succ, i64_w, i32_w]
            rfl
          refine pure_ (i := 16) (N := some 97) (v := ?_) (a' := ?_) #[true, true, true, true, true, true, true, true, true, true, true, true, true, true, true, true, true, false, false, false, false, false, false, false, false] rfl rfl (by kernel_rfl) (fun _ _ _ h => h) (Or.inl ⟨by rfl, ?_⟩) ?_ ?_
          rotate_left
          · intro w'
            go_simp
            with_reducible rfl
          rotate_left
          · simp only [Act.put, List.setIfInBounds_toArray, List.set_cons_zero, List.set_cons_succ, i64_w, i32_w]
            rfl
          refine pure_ (i := 17) (N := some 98) (v := ?_) (a' := ?_) #[true, true, true, true, true, true, true, true, true, true, true, true, true, true, true, true, true, true, false, false, false, false, false, false, false] rfl rfl (by kernel_rfl) (fun _ _ _ h => h) (Or.inl ⟨by rfl, ?_⟩) ?_ ?_
          rotate_left
          · intro w'
            go_simp
            with_reducible rfl
          rotate_left
          · simp only [Act.put, List.setIfInBounds_toArray, List.set_cons_zero, List.set_cons_succ, i64_w, i32_w]
            rfl
          refine pure_ (i := 18) (N := some 99) (v := ?_) (a' := ?_) #[true, true, true, true, true, true, true, true, true, true, true, true, true, true, true, true, true, true, true, false, false, false, false, false, false] rfl rfl (by kernel_rfl) (fun _ _ _ h => h) (Or.inl ⟨by rfl, ?_⟩) ?_ ?_
          rotate_left
          · intro w'
            go_simp
            with_reducible rfl
          rotate_left
          · simp only [Act.put, List.setIfInBounds_toArray, List.set_cons_zero, List.set_cons_succ, i64_w, i32_w]
            rfl
          refine pure_ (i := 19) (N := some 100) (v := ?_) (a' := ?_) #[true, true, true, true, true, true, true, true, true, true, true, true, true, true, true, true, true, true, true, true, false, false, false, false, false] rfl rfl (by kernel_rfl) (fun _ _ _ h => h) (Or.inl ⟨by rfl, ?_⟩) ?_ ?_
          rotate_left
          · intro w'
            go_simp
            with_reducible rfl
          rotate_left
          · simp only [Act.put, List.setIfInBounds_toArray, List.set_cons_zero, List.set_cons_succ, i64_w, i32_w]
            rfl
          refine pure_ (i := 20) (N := some 101) (v := ?_) (a' := ?_) #[true, true, true, true, true, true, true, true, true, true, true, true, true, true, true, true, true, true, true, true, true, false, false, false, false] rfl rfl (by kernel_rfl) (fun _ _ _ h => h) (Or.inl ⟨by rfl, ?_⟩) ?_ ?_
          rotate_left
          · intro w'
            go_simp
            with_reducible rfl
          rotate_left
          · simp only [Act.put, List.setIfInBounds_toArray, List.set_cons_zero, List.set_cons_succ, i64_w, i32_w]
            rfl
          refine pure_ (i := 21) (N := some 102) (v := ?_) (a' := ?_) #[true, true, true, true, true, true, true, true, true, true, true, true, true, true, true, true, true, true, true, true, true, true, false, false, false] rfl rfl (by kernel_rfl) (fun _ _ _ h => h) (Or.inl ⟨by rfl, ?_⟩) ?_ ?_
          rotate_left
          · intro w'
            go_simp
            with_reducible rfl
          rotate_left
          · simp only [Act.put, List.setIfInBounds_toArray, List.set_cons_zero, List.set_cons_succ, i64_w, i32_w]
            rfl
          refine pure_ (i := 22) (N := some 103) (v := ?_) (a' := ?_) #[true, true, true, true, true, true, true, true, true, true, true, true, true, true, true, true, true, true, true, true, true, true, true, false, false] rfl rfl (by kernel_rfl) (fun _ _ _ h => h) (Or.inl ⟨by rfl, ?_⟩) ?_ ?_
          rotate_left
          · intro w'
            go_simp
            with_reducible rfl
          rotate_left
          · simp only [Act.put, List.setIfInBounds_toArray, List.set_cons_zero, List.set_cons_succ, i64_w, i32_w]
            rfl
          refine pure_ (i := 23) (N := some 104) (v := ?_) (a' := ?_) #[true, true, true, true, true, true, true, true, true, true, true, true, true, true, true, true, true, true, true, true, true, true, true, true, false] rfl rfl (by kernel_rfl) (fun _ _ _ h => h) (Or.inl ⟨by rfl, ?_⟩) ?_ ?_
          rotate_left
          · intro w'
            go_simp
            with_reducible rfl
          rotate_left
          · simp only [Act.put, List.setIfInBounds_toArray, List.set_cons_zero, List.set_cons_succ, i64_w, i32_w]
            rfl
          refine pure_ (i := 24) (N := some 105) (v := ?_) (a' := ?_) #[true, true, true, true, true, true, true, true, true, true, true, true, true, true, true, true, true, true, true, true, true, true, true, true, true] rfl rfl (by kernel_rfl) (fun _ _ _ h => h) (Or.inl ⟨by rfl, ?_⟩) ?_ ?_
          rotate_left
          · intro w'
            go_simp
            with_reducible rfl
          rotate_left
          · simp only [Act.put, List.setIfInBounds_toArray, List.set_cons_zero, List.set_cons_succ, i64_w, i32_w]
            rfl
          refine done_ (by kernel_rfl) ?_
          go_wp2_with fail
          refine (business_any g bb wk xs n x4 HC4.out).mono ?_
          rintro e x5 ⟨rfl, hb⟩
          have HB5 : Held (Below W0 w x5) := ⟨HB4.out.trans (hb.mono (by have := HB4.out.size; rw [HW0.out] at this; exact this))⟩
          have HC5 := Held.mk (HC4.out.below hb)
          clear hb HB4 HC4
          have HR : Held (busB wk xs n = true ∨ busB wk xs n = false) := ⟨by cases busB wk xs n <;> simp⟩
          rcases HR.out with hr | hr
          · have Hr := Held.mk hr
            rw [hr]
            clear hr HR
            go_wp2_with fail
            refine (add_any g bb wk xs x a x5 HC5.out (by omega)).mono ?_
            intro e x6 hadd
            obtain ⟨r4, rfl, hA6, hb⟩ := add_opt hadd
            have HB6 : Held (Below W0 w x6) := ⟨HB5.out.trans (hb.mono (by have := HB5.out.size; rw [HW0.out] at this; exact this))⟩
            have HC6 := Held.mk (HC5.out.below hb)
            have HA6 := Held.mk hA6
            clear hadd hb hA6 HB5 HC5
            obtain rfl := dn3 Hnd.out ha1' Hr.out HA1.out HA6.out
            simp only [addV]
            go_wp2
            go_roundw
            case rel => exact ⟨1, by first | rfl | go_num, by omega, HC6, HB6⟩
            case measure => simp [intOf]
          · rw [hr]
            clear hr HR
            go_wp2
            go_roundw
            case rel => exact ⟨1, by first | rfl | go_num, by omega, HC5, HB5⟩
            case measure => simp [intOf]
    · go_wp2_with fail
      refine (add_any g bb wk xs n a wr HC.out (by omega)).mono ?_
      intro e x1 hadd
      obtain ⟨r1, rfl, hA1, hb⟩ := add_opt hadd
      have HB1 : Held (Below W0 w x1) := ⟨HB.out.trans (hb.mono (by have := HB.out.size; rw [HW0.out] at this; exact this))⟩
      have HC1 := Held.mk (HC.out.below hb)
      have HA1 := Held.mk hA1
      clear hadd hb hA1 HB HC
      cases r1 with
      | none =>
        unfold addV
        go_wp2_with fail
        refine (add_any g bb wk xs n (a + q) x1 HC1.out (by omega)).mono ?_
        intro e x2 hadd
        obtain ⟨r2, rfl, hA2, hb⟩ := add_opt hadd
        have HB2 : Held (Below W0 w x2) := ⟨HB1.out.trans (hb.mono (by have := HB1.out.size; rw [HW0.out] at this; exact this))⟩
        have HC2 := Held.mk (HC1.out.below hb)
        have HA2 := Held.mk hA2
        clear hadd hb hA2 HB1 HC1
        obtain rfl := up1 Hnd.out ha1' hq1' HA1.out HA2.out
        unfold addV noDayV
        go_wp2
        go_roundw
        case rel => exact ⟨3, by first | rfl | go_num, by omega, HC2, HB2⟩
        case measure => simp [intOf]
      | some x =>
        simp only [addV]
        go_wp2_with fail
        refine (add_any g bb wk xs n (a + q) x1 HC1.out (by omega)).mono ?_
        intro e x2 hadd
        obtain ⟨r2, rfl, hA2, hb⟩ := add_opt hadd
        have HB2 : Held (Below W0 w x2) := ⟨HB1.out.trans (hb.mono (by have := HB1.out.size; rw [HW0.out] at this; exact this))⟩
        have HC2 := Held.mk (HC1.out.below hb)
        have HA2 := Held.mk hA2
        clear hadd hb hA2 HB1 HC1
        have hxd : isD x := (HA1.out.yes x rfl).1
        obtain ⟨hxd1, hxd2⟩ := hxd
        have hr2 : addV r2 = addV r2 := rfl
        clear hr2
        rcases r2 with _ | z
        · simp only [addV, noDayV]
          go_wp2_with fail
          refine (add_any g bb wk xs x q x2 HC2.out (by omega)).mono ?_
          intro e x3 hadd
          obtain ⟨r3, rfl, hA3, hb⟩ := add_opt hadd
          have HB3 : Held (Below W0 w x3) := ⟨HB2.out.trans (hb.mono (by have := HB2.out.size; rw [HW0.out] at this; exact this))⟩
          have HC3 := Held.mk (HC2.out.below hb)
          have HA3 := Held.mk hA3
          clear hadd hb hA3 HB2 HC2
          obtain ⟨hrr, hbx, hxd, hle⟩ := up2 Hnd.out ha1' hq1' HA1.out HA2.out HA3.out
          subst hrr
          have Hxd := Held.mk hxd
          clear hxd
          simp only [addV, noDayV]
          have hw1 : wrap64 (x - n) = x - n := IntWalk.wrap64_in _ (by omega)
          have hcmp : decide (wrap64 (x - n) < a) = false := decide_eq_false (by rw [hw1]; omega)
          have hcmp2 : decide (wrap64 (wrap64 (x - n)) < a) = false := decide_eq_false (by rw [hw1, hw1]; omega)
          clear hw1
          go_wp2_with fail
          refine start_ (n := 25) (S := fun w' => True) (ds := []) #[false, false, false, false, false, false, false, false, false, false, false, false, false, false, false, false, false, false, false, false, false, false, false, false, false] (by kernel_rfl) rfl rfl trivial (fun hHeld => ?_)
          refine pure_ (i := 0) (N := some 81) (v := ?_) (a' := ?_) #[true, false, false, false, false, false, false, false, false, false, false, false, false, false, false, false, false, false, false, false, false, false, false, false, false] rfl rfl (by kernel_rfl) (fun _ _ _ h => h) (Or.inl ⟨by rfl, ?_⟩) ?_ ?_
          rotate_left
          · intro w'
            go_simp
            with_reducible rfl
          rotate_left
          · simp only [Act.put, List.setIfInBounds_toArray, List.set_cons_zero, List.set_cons_succ, i64_w, i32_w]
            rfl
          refine pure_ (i := 1) (N := some 82) (v := ?_) (a' := ?_) #[true, true, false, false, false, false, false, false, false, false, false, false, false, false, false, false, false, false, false, false, false, false, false, false, false] rfl rfl (by kernel_rfl) (fun _ _ _ h => h) (Or.inl ⟨by rfl, ?_⟩) ?_ ?_
          rotate_left
          · intro w'
            go_simp
            with_reducible rfl
          rotate_left
          · simp only [Act.put, List.setIfInBounds_toArray, List.set_cons_zero, List.set_cons_succ, i64_w, i32_w]
            rfl
          refine pure_ (i := 2) (N := some 83) (v := ?_) (a' := ?_) #[true, true, true, false, false, false, false, false, false, false, false, false, false, false, false, false, false, false, false, false, false, false, false, false, false] rfl rfl (by kernel_rfl) (fun _ _ _ h => h) (Or.inl ⟨by rfl, ?_⟩) ?_ ?_
          rotate_left
          · intro w'
            go_simp
            with_reducible rfl
          rotate_left
          · simp only [Act.put, List.setIfInBounds_toArray, List.set_cons_zero, List.set_cons_succ, i64_w, i32_w]
            rfl
          refine pure_ (i := 3) (N := some 84) (v := ?_) (a' := ?_) #[true, true, true, true, false, false, false, false, false, false, false, false, false, false, false, false, false, false, false, false, false, false, false, false, false] rfl rfl (by kernel_rfl) (fun _ _ _ h => h) (Or.inl ⟨by rfl, ?_⟩) ?_ ?_
          rotate_left
          · intro w'
            go_simp
            with_reducible rfl
          rotate_left
          · simp only [Act.put, List.setIfInBounds_toArray, List.set_cons_zero, List.set_cons_succ, i64_w, i32_w]
            rfl
          refine pure_ (i := 4) (N := some 85) (v := ?_) (a' := ?_) #[true, true, true, true, true, false, false, false, false, false, false, false, false, false, false, false, false, false, false, false, false, false, false, false, false] rfl rfl (by kernel_rfl) (fun _ _ _ h => h) (Or.inl ⟨by rfl, ?_⟩) ?_ ?_
          rotate_left
          · intro w'
            go_simp
            with_reducible rfl
          rotate_left
          · simp only [Act.put, List.setIfInBounds_toArray, List.set_cons_zero, List.set_cons_succ, i64_w, i32_w]
            rfl
          refine pure_ (i := 5) (N := some 86) (v := ?_) (a' := ?_) #[true, true, true, true, true, true, false, false, false, false, false, false, false, false, false, false, false, false, false, false, false, false, false, false, false] rfl rfl (by kernel_rfl) (fun _ _ _ h => h) (Or.inl ⟨by rfl, ?_⟩) ?_ ?_
          rotate_left
          · intro w'
            go_simp
            with_reducible rfl
          rotate_left
          · simp only [Act.put, List.setIfInBounds_toArray, List.set_cons_zero, List.set_cons_succ, i64_w, i32_w]
            rfl
          refine pure_ (i := 6) (N := some 87) (v := ?_) (a' := ?_) #[true, true, true, true, true, true, true, false, false, false, false, false, false, false, false, false, false, false, false, false, false, false, false, false, false] rfl rfl (by kernel_rfl) (fun _ _ _ h => h) (Or.inl ⟨by rfl, ?_⟩) ?_ ?_
          rotate_left
          · intro w'
            go_simp
            with_reducible rfl
          rotate_left
          · simp only [Act.put, List.setIfInBounds_toArray, List.set_cons_zero, List.set_cons_succ, i64_w, i32_w]
            rfl
          refine pure_ (i := 7) (N := some 88) (v := ?_) (a' := ?_) #[true, true, true, true, true, true, true, true, false, false, false, false, false, false, false, false, false, false, false, false, false, false, false, false, false] rfl rfl (by kernel_rfl) (fun _ _ _ h => h) (Or.inl ⟨by rfl, ?_⟩) ?_ ?_
          rotate_left
          · intro w'
            go_simp
            with_reducible rfl
          rotate_left
          · simp only [Act.put, List.setIfInBounds_toArray, List.set_cons_zero, List.set_cons_succ, i64_w, i32_w]
            rfl
          refine pure_ (i := 8) (N := some 89) (v := ?_) (a' := ?_) #[true, true, true, true, true, true, true, true, true, false, false, false, false, false, false, false, false, false, false, false, false, false, false, false, false] rfl rfl (by kernel_rfl) (fun _ _ _ h => h) (Or.inl ⟨by rfl, ?_⟩) ?_ ?_
          rotate_left
          · intro w'
            go_simp
            with_reducible rfl
          rotate_left
          · simp only [Act.put, List.setIfInBounds_toArray, List.set_cons_zero, List.set_cons_succ, i64_w, i32_w]
            rfl
          refine pure_ (i := 9) (N := some 90) (v := ?_) (a' := ?_) #[true, true, true, true, true, true, true, true, true, true, false, false, false, false, false, false, false, false, false, false, false, false, false, false, false] rfl rfl (by kernel_rfl) (fun _ _ _ h => h) (Or.inl ⟨by rfl, ?_⟩) ?_ ?_
          rotate_left
          · intro w'
            go_simp
            with_reducible rfl
          rotate_left
          · simp only [Act.put, List.setIfInBounds_toArray, List.set_cons_zero, List.set_cons_succ, i64_w, i32_w]
            rfl
          refine pure_ (i := 10) (N := some 91) (v := ?_) (a' := ?_) #[true, true, true, true, true, true, true, true, true, true, true, false, false, false, false, false, false, false, false, false, false, false, false, false, false] rfl rfl (by kernel_rfl) (fun _ _ _ h => h) (Or.inl ⟨by rfl, ?_⟩) ?_ ?_
          rotate_left
          · intro w'
            go_simp
            with_reducible rfl
          rotate_left
          · simp only [Act.put, List.setIfInBounds_toArray, List.set_cons_zero, List.set_cons_succ, i64_w, i32_w]
            rfl
          refine pure_ (i := 11) (N := some 92) (v := ?_) (a' := ?_) #[true, true, true, true, true, true, true, true, true, true, true, true, false, false, false, false, false, false, false, false, false, false, false, false, false] rfl rfl (by kernel_rfl) (fun _ _ _ h => h) (Or.inl ⟨by rfl, ?_⟩) ?_ ?_
          rotate_left
          · intro w'
            go_simp
            with_reducible rfl
          rotate_left
          · simp only [Act.put, List.setIfInBounds_toArray, List.set_cons_zero, List.set_cons_succ, i64_w, i32_w]
            rfl
          refine pure_ (i := 12) (N := some 93) (v := ?_) (a' := ?_) #[true, true, true, true, true, true, true, true, true, true, true, true, true, false, false, false, false, false, false, false, false, false, false, false, false] rfl rfl (by kernel_rfl) (fun _ _ _ h => h) (Or.inl ⟨by rfl, ?_⟩) ?_ ?_
          rotate_left
          · intro w'
            go_simp
            with_reducible rfl
          rotate_left
          · simp only [Act.put, List.setIfInBounds_toArray, List.set_cons_zero, List.set_cons_succ, i64_w, i32_w]
            rfl
          refine one_ (i := 13) (N := some 94) #[true, true, true, true, true, true, true, true, true, true, true, true, true, true, false, false, false, false, false, false, false, false, false, false, false] rfl rfl (by kernel_rfl) (by decide) (fun K hK => ?_)
          refine goes_ Try.func17 (by kernel_rfl) rfl #[.pointer (some ⟨g, 0, none⟩), .int .i64 x] (by rfl) rfl rfl (by simp only [List.map_toArray, List.map_cons, List.map_nil]; rfl) ?_
          with_reducible refine (business_any g bb wk xs x _ HC3.out.drew).mono ?_
          rintro e x4 ⟨rfl, hb⟩
          refine ⟨_, rfl, ?_⟩
          have HB4 : Held (Below W0 w x4) := ⟨HB3.out.drew.trans (hb.mono (by have := HB3.out.size; rw [HW0.out] at this; exact this))⟩
          have HC4 := Held.mk (HC3.out.drew.below hb)
          clear hb HB3 HC3
          rw [hbx]
          refine hK.out _ _ trivial (fun hHeld => ?_)
          clear hK K
          refine norm_ (a' := ?_) ?_ ?_
          rotate_left
          · show Act.put _ (some 94) _ = _
            simp only [Act.put, List.setIfInBounds_toArray, List.set_cons_zero, List.set_cons_succ, i64_w, i32_w]
            rfl
          refine pure_ (i := 14) (N := some 95) (v := ?_) (a' := ?_) #[true, true, true, true, true, true, true, true, true, true, true, true, true, true, true, false, false, false, false, false, false, false, false, false, false] rfl rfl (by kernel_rfl) (fun _ _ _ h => h) (Or.inl ⟨by rfl, ?_⟩) ?_ ?_
          rotate_left
          · intro w'
            go_simp
            with_reducible rfl
          rotate_left
          · simp only [Act.put, List.setIfInBounds_toArray, List.set_cons_zero, List.set_cons_succ, i64_w, i32_w]
            rfl
          refine pure_ (i := 15) (N := some 96) (v := ?_) (a' := ?_) #[true, true, true, true, true, true, true, true, true, true, true, true, true, true, true, true, false, false, false, false, false, false, false, false, false] rfl rfl (by kernel_rfl) (fun _ _ _ h => h) (Or.inl ⟨by rfl, ?_⟩) ?_ ?_
          rotate_left
          · intro w'
            go_simp
            with_reducible rfl
          rotate_left
          · simp only [Act.put, List.setIfInBounds_toArray, List.set_cons_zero, List.set_cons_succ, i64_w, i32_w]
            rfl
          refine pure_ (i := 16) (N := some 97) (v := ?_) (a' := ?_) #[true, true, true, true, true, true, true, true, true, true, true, true, true, true, true, true, true, false, false, false, false, false, false, false, false] rfl rfl (by kernel_rfl) (fun _ _ _ h => h) (Or.inl ⟨by rfl, ?_⟩) ?_ ?_
          rotate_left
          · intro w'
            go_simp
            with_reducible rfl
          rotate_left
          · simp only [Act.put, List.setIfInBounds_toArray, List.set_cons_zero, List.set_cons_succ, i64_w, i32_w]
            rfl
          refine pure_ (i := 17) (N := some 98) (v := ?_) (a' := ?_) #[true, true, true, true, true, true, true, true, true, true, true, true, true, true, true, true, true, true, false, false, false, false, false, false, false] rfl rfl (by kernel_rfl) (fun _ _ _ h => h) (Or.inl ⟨by rfl, ?_⟩) ?_ ?_
          rotate_left
          · intro w'
            go_simp
            with_reducible rfl
          rotate_left
          · simp only [Act.put, List.setIfInBounds_toArray, List.set_cons_zero, List.set_cons_succ, i64_w, i32_w]
            rfl
          refine pure_ (i := 18) (N := some 99) (v := ?_) (a' := ?_) #[true, true, true, true, true, true, true, true, true, true, true, true, true, true, true, true, true, true, true, false, false, false, false, false, false] rfl rfl (by kernel_rfl) (fun _ _ _ h => h) (Or.inl ⟨by rfl, ?_⟩) ?_ ?_
          rotate_left
          · intro w'
            go_simp
            with_reducible rfl
          rotate_left
          · simp only [Act.put, List.setIfInBounds_toArray, List.set_cons_zero, List.set_cons_succ, i64_w, i32_w]
            rfl
          refine pure_ (i := 19) (N := some 100) (v := ?_) (a' := ?_) #[true, true, true, true, true, true, true, true, true, true, true, true, true, true, true, true, true, true, true, true, false, false, false, false, false] rfl rfl (by kernel_rfl) (fun _ _ _ h => h) (Or.inl ⟨by rfl, ?_⟩) ?_ ?_
          rotate_left
          · intro w'
            go_simp
            with_reducible rfl
          rotate_left
          · simp only [Act.put, List.setIfInBounds_toArray, List.set_cons_zero, List.set_cons_succ, i64_w, i32_w]
            rfl
          refine pure_ (i := 20) (N := some 101) (v := ?_) (a' := ?_) #[true, true, true, true, true, true, true, true, true, true, true, true, true, true, true, true, true, true, true, true, true, false, false, false, false] rfl rfl (by kernel_rfl) (fun _ _ _ h => h) (Or.inl ⟨by rfl, ?_⟩) ?_ ?_
          rotate_left
          · intro w'
            go_simp
            with_reducible rfl
          rotate_left
          · simp only [Act.put, List.setIfInBounds_toArray, List.set_cons_zero, List.set_cons_succ, i64_w, i32_w]
            rfl
          refine pure_ (i := 21) (N := some 102) (v := ?_) (a' := ?_) #[true, true, true, true, true, true, true, true, true, true, true, true, true, true, true, true, true, true, true, true, true, true, false, false, false] rfl rfl (by kernel_rfl) (fun _ _ _ h => h) (Or.inl ⟨by rfl, ?_⟩) ?_ ?_
          rotate_left
          · intro w'
            go_simp
            with_reducible rfl
          rotate_left
          · simp only [Act.put, List.setIfInBounds_toArray, List.set_cons_zero, List.set_cons_succ, i64_w, i32_w]
            rfl
          refine pure_ (i := 22) (N := some 103) (v := ?_) (a' := ?_) #[true, true, true, true, true, true, true, true, true, true, true, true, true, true, true, true, true, true, true, true, true, true, true, false, false] rfl rfl (by kernel_rfl) (fun _ _ _ h => h) (Or.inl ⟨by rfl, ?_⟩) ?_ ?_
          rotate_left
          · intro w'
            go_simp
            with_reducible rfl
          rotate_left
          · simp only [Act.put, List.setIfInBounds_toArray, List.set_cons_zero, List.set_cons_succ, i64_w, i32_w]
            rfl
          refine pure_ (i := 23) (N := some 104) (v := ?_) (a' := ?_) #[true, true, true, true, true, true, true, true, true, true, true, true, true, true, true, true, true, true, true, true, true, true, true, true, false] rfl rfl (by kernel_rfl) (fun _ _ _ h => h) (Or.inl ⟨by rfl, ?_⟩) ?_ ?_
          rotate_left
          · intro w'
            go_simp
            with_reducible rfl
          rotate_left
          · simp only [Act.put, List.setIfInBounds_toArray, List.set_cons_zero, List.set_cons_succ, i64_w, i32_w]
            rfl
          refine pure_ (i := 24) (N := some 105) (v := ?_) (a' := ?_) #[true, true, true, true, true, true, true, true, true, true, true, true, true, true, true, true, true, true, true, true, true, true, true, true, true] rfl rfl (by kernel_rfl) (fun _ _ _ h => h) (Or.inl ⟨by rfl, ?_⟩) ?_ ?_
          rotate_left
          · intro w'
            go_simp
            with_reducible rfl
          rotate_left
          · simp only [Act.put, List.setIfInBounds_toArray, List.set_cons_zero, List.set_cons_succ, i64_w, i32_w]
            rfl
          refine done_ (by kernel_rfl) ?_
          go_wp2_with fail
          refine (business_any g bb wk xs n x4 HC4.out).mono ?_
          rintro e x5 ⟨rfl, hb⟩
          have HB5 : Held (Below W0 w x5) := ⟨HB4.out.trans (hb.mono (by have := HB4.out.size; rw [HW0.out] at this; exact this))⟩
          have HC5 := Held.mk (HC4.out.below hb)
          clear hb HB4 HC4
          have HR : Held (busB wk xs n = true ∨ busB wk xs n = false) := ⟨by cases busB wk xs n <;> simp⟩
          rcases HR.out with hr | hr
          · have Hr := Held.mk hr
            rw [hr]
            clear hr HR
            go_wp2_with fail
            refine (add_any g bb wk xs x (-a) x5 HC5.out (by omega)).mono ?_
            intro e x6 hadd
            obtain ⟨r4, rfl, hA6, hb⟩ := add_opt hadd
            have HB6 : Held (Below W0 w x6) := ⟨HB5.out.trans (hb.mono (by have := HB5.out.size; rw [HW0.out] at this; exact this))⟩
            have HC6 := Held.mk (HC5.out.below hb)
            have HA6 := Held.mk hA6
            clear hadd hb hA6 HB5 HC5
            obtain rfl := up3 Hnd.out ha1' Hr.out HA1.out HA6.out
            simp only [addV]
            go_wp2
            go_roundw
            case rel => exact ⟨3, by first | rfl | go_num, by omega, HC6, HB6⟩
            case measure => simp [intOf]
          · rw [hr]
            clear hr HR
            go_wp2
            go_roundw
            case rel => exact ⟨3, by first | rfl | go_num, by omega, HC5, HB5⟩
            case measure => simp [intOf]
        · simp only [addV]
          go_wp2_with fail
          refine (add_any g bb wk xs x q x2 HC2.out (by omega)).mono ?_
          intro e x3 hadd
          obtain ⟨r3, rfl, hA3, hb⟩ := add_opt hadd
          have HB3 : Held (Below W0 w x3) := ⟨HB2.out.trans (hb.mono (by have := HB2.out.size; rw [HW0.out] at this; exact this))⟩
          have HC3 := Held.mk (HC2.out.below hb)
          have HA3 := Held.mk hA3
          clear hadd hb hA3 HB2 HC2
          obtain ⟨hrr, hbx, hxd, hle⟩ := up2 Hnd.out ha1' hq1' HA1.out HA2.out HA3.out
          subst hrr
          have Hxd := Held.mk hxd
          clear hxd
          simp only [addV]
          have hw1 : wrap64 (x - n) = x - n := IntWalk.wrap64_in _ (by omega)
          have hcmp : decide (wrap64 (x - n) < a) = false := decide_eq_false (by rw [hw1]; omega)
          have hcmp2 : decide (wrap64 (wrap64 (x - n)) < a) = false := decide_eq_false (by rw [hw1, hw1]; omega)
          clear hw1
          go_wp2_with fail
          refine start_ (n := 25) (S := fun w' => True) (ds := []) #[false, false, false, false, false, false, false, false, false, false, false, false, false, false, false, false, false, false, false, false, false, false, false, false, false] (by kernel_rfl) rfl rfl trivial (fun hHeld => ?_)
          refine pure_ (i := 0) (N := some 81) (v := ?_) (a' := ?_) #[true, false, false, false, false, false, false, false, false, false, false, false, false, false, false, false, false, false, false, false, false, false, false, false, false] rfl rfl (by kernel_rfl) (fun _ _ _ h => h) (Or.inl ⟨by rfl, ?_⟩) ?_ ?_
          rotate_left
          · intro w'
            go_simp
            with_reducible rfl
          rotate_left
          · simp only [Act.put, List.setIfInBounds_toArray, List.set_cons_zero, List.set_cons_succ, i64_w, i32_w]
            rfl
          refine pure_ (i := 1) (N := some 82) (v := ?_) (a' := ?_) #[true, true, false, false, false, false, false, false, false, false, false, false, false, false, false, false, false, false, false, false, false, false, false, false, false] rfl rfl (by kernel_rfl) (fun _ _ _ h => h) (Or.inl ⟨by rfl, ?_⟩) ?_ ?_
          rotate_left
          · intro w'
            go_simp
            with_reducible rfl
          rotate_left
          · simp only [Act.put, List.setIfInBounds_toArray, List.set_cons_zero, List.set_cons_succ, i64_w, i32_w]
            rfl
          refine pure_ (i := 2) (N := some 83) (v := ?_) (a' := ?_) #[true, true, true, false, false, false, false, false, false, false, false, false, false, false, false, false, false, false, false, false, false, false, false, false, false] rfl rfl (by kernel_rfl) (fun _ _ _ h => h) (Or.inl ⟨by rfl, ?_⟩) ?_ ?_
          rotate_left
          · intro w'
            go_simp
            with_reducible rfl
          rotate_left
          · simp only [Act.put, List.setIfInBounds_toArray, List.set_cons_zero, List.set_cons_succ, i64_w, i32_w]
            rfl
          refine pure_ (i := 3) (N := some 84) (v := ?_) (a' := ?_) #[true, true, true, true, false, false, false, false, false, false, false, false, false, false, false, false, false, false, false, false, false, false, false, false, false] rfl rfl (by kernel_rfl) (fun _ _ _ h => h) (Or.inl ⟨by rfl, ?_⟩) ?_ ?_
          rotate_left
          · intro w'
            go_simp
            with_reducible rfl
          rotate_left
          · simp only [Act.put, List.setIfInBounds_toArray, List.set_cons_zero, List.set_cons_succ, i64_w, i32_w]
            rfl
          refine pure_ (i := 4) (N := some 85) (v := ?_) (a' := ?_) #[true, true, true, true, true, false, false, false, false, false, false, false, false, false, false, false, false, false, false, false, false, false, false, false, false] rfl rfl (by kernel_rfl) (fun _ _ _ h => h) (Or.inl ⟨by rfl, ?_⟩) ?_ ?_
          rotate_left
          · intro w'
            go_simp
            with_reducible rfl
          rotate_left
          · simp only [Act.put, List.setIfInBounds_toArray, List.set_cons_zero, List.set_cons_succ, i64_w, i32_w]
            rfl
          refine pure_ (i := 5) (N := some 86) (v := ?_) (a' := ?_) #[true, true, true, true, true, true, false, false, false, false, false, false, false, false, false, false, false, false, false, false, false, false, false, false, false] rfl rfl (by kernel_rfl) (fun _ _ _ h => h) (Or.inl ⟨by rfl, ?_⟩) ?_ ?_
          rotate_left
          · intro w'
            go_simp
            with_reducible rfl
          rotate_left
          · simp only [Act.put, List.setIfInBounds_toArray, List.set_cons_zero, List.set_cons_succ, i64_w, i32_w]
            rfl
          refine pure_ (i := 6) (N := some 87) (v := ?_) (a' := ?_) #[true, true, true, true, true, true, true, false, false, false, false, false, false, false, false, false, false, false, false, false, false, false, false, false, false] rfl rfl (by kernel_rfl) (fun _ _ _ h => h) (Or.inl ⟨by rfl, ?_⟩) ?_ ?_
          rotate_left
          · intro w'
            go_simp
            with_reducible rfl
          rotate_left
          · simp only [Act.put, List.setIfInBounds_toArray, List.set_cons_zero, List.set_cons_succ, i64_w, i32_w]
            rfl
          refine pure_ (i := 7) (N := some 88) (v := ?_) (a' := ?_) #[true, true, true, true, true, true, true, true, false, false, false, false, false, false, false, false, false, false, false, false, false, false, false, false, false] rfl rfl (by kernel_rfl) (fun _ _ _ h => h) (Or.inl ⟨by rfl, ?_⟩) ?_ ?_
          rotate_left
          · intro w'
            go_simp
            with_reducible rfl
          rotate_left
          · simp only [Act.put, List.setIfInBounds_toArray, List.set_cons_zero, List.set_cons_succ, i64_w, i32_w]
            rfl
          refine pure_ (i := 8) (N := some 89) (v := ?_) (a' := ?_) #[true, true, true, true, true, true, true, true, true, false, false, false, false, false, false, false, false, false, false, false, false, false, false, false, false] rfl rfl (by kernel_rfl) (fun _ _ _ h => h) (Or.inl ⟨by rfl, ?_⟩) ?_ ?_
          rotate_left
          · intro w'
            go_simp
            with_reducible rfl
          rotate_left
          · simp only [Act.put, List.setIfInBounds_toArray, List.set_cons_zero, List.set_cons_succ, i64_w, i32_w]
            rfl
          refine pure_ (i := 9) (N := some 90) (v := ?_) (a' := ?_) #[true, true, true, true, true, true, true, true, true, true, false, false, false, false, false, false, false, false, false, false, false, false, false, false, false] rfl rfl (by kernel_rfl) (fun _ _ _ h => h) (Or.inl ⟨by rfl, ?_⟩) ?_ ?_
          rotate_left
          · intro w'
            go_simp
            with_reducible rfl
          rotate_left
          · simp only [Act.put, List.setIfInBounds_toArray, List.set_cons_zero, List.set_cons_succ, i64_w, i32_w]
            rfl
          refine pure_ (i := 10) (N := some 91) (v := ?_) (a' := ?_) #[true, true, true, true, true, true, true, true, true, true, true, false, false, false, false, false, false, false, false, false, false, false, false, false, false] rfl rfl (by kernel_rfl) (fun _ _ _ h => h) (Or.inl ⟨by rfl, ?_⟩) ?_ ?_
          rotate_left
          · intro w'
            go_simp
            with_reducible rfl
          rotate_left
          · simp only [Act.put, List.setIfInBounds_toArray, List.set_cons_zero, List.set_cons_succ, i64_w, i32_w]
            rfl
          refine pure_ (i := 11) (N := some 92) (v := ?_) (a' := ?_) #[true, true, true, true, true, true, true, true, true, true, true, true, false, false, false, false, false, false, false, false, false, false, false, false, false] rfl rfl (by kernel_rfl) (fun _ _ _ h => h) (Or.inl ⟨by rfl, ?_⟩) ?_ ?_
          rotate_left
          · intro w'
            go_simp
            with_reducible rfl
          rotate_left
          · simp only [Act.put, List.setIfInBounds_toArray, List.set_cons_zero, List.set_cons_succ, i64_w, i32_w]
            rfl
          refine pure_ (i := 12) (N := some 93) (v := ?_) (a' := ?_) #[true, true, true, true, true, true, true, true, true, true, true, true, true, false, false, false, false, false, false, false, false, false, false, false, false] rfl rfl (by kernel_rfl) (fun _ _ _ h => h) (Or.inl ⟨by rfl, ?_⟩) ?_ ?_
          rotate_left
          · intro w'
            go_simp
            with_reducible rfl
          rotate_left
          · simp only [Act.put, List.setIfInBounds_toArray, List.set_cons_zero, List.set_cons_succ, i64_w, i32_w]
            rfl
          refine one_ (i := 13) (N := some 94) #[true, true, true, true, true, true, true, true, true, true, true, true, true, true, false, false, false, false, false, false, false, false, false, false, false] rfl rfl (by kernel_rfl) (by decide) (fun K hK => ?_)
          refine goes_ Try.func17 (by kernel_rfl) rfl #[.pointer (some ⟨g, 0, none⟩), .int .i64 x] (by rfl) rfl rfl (by simp only [List.map_toArray, List.map_cons, List.map_nil]; rfl) ?_
          with_reducible refine (business_any g bb wk xs x _ HC3.out.drew).mono ?_
          rintro e x4 ⟨rfl, hb⟩
          refine ⟨_, rfl, ?_⟩
          have HB4 : Held (Below W0 w x4) := ⟨HB3.out.drew.trans (hb.mono (by have := HB3.out.size; rw [HW0.out] at this; exact this))⟩
          have HC4 := Held.mk (HC3.out.drew.below hb)
          clear hb HB3 HC3
          rw [hbx]
          refine hK.out _ _ trivial (fun hHeld => ?_)
          clear hK K
          refine norm_ (a' := ?_) ?_ ?_
          rotate_left
          · show Act.put _ (some 94) _ = _
            simp only [Act.put, List.setIfInBounds_toArray, List.set_cons_zero, List.set_cons_succ, i64_w, i32_w]
            rfl
          refine pure_ (i := 14) (N := some 95) (v := ?_) (a' := ?_) #[true, true, true, true, true, true, true, true, true, true, true, true, true, true, true, false, false, false, false, false, false, false, false, false, false] rfl rfl (by kernel_rfl) (fun _ _ _ h => h) (Or.inl ⟨by rfl, ?_⟩) ?_ ?_
          rotate_left
          · intro w'
            go_simp
            with_reducible rfl
          rotate_left
          · simp only [Act.put, List.setIfInBounds_toArray, List.set_cons_zero, List.set_cons_succ, i64_w, i32_w]
            rfl
          refine pure_ (i := 15) (N := some 96) (v := ?_) (a' := ?_) #[true, true, true, true, true, true, true, true, true, true, true, true, true, true, true, true, false, false, false, false, false, false, false, false, false] rfl rfl (by kernel_rfl) (fun _ _ _ h => h) (Or.inl ⟨by rfl, ?_⟩) ?_ ?_
          rotate_left
          · intro w'
            go_simp
            with_reducible rfl
          rotate_left
          · simp only [Act.put, List.setIfInBounds_toArray, List.set_cons_zero, List.set_cons_succ, i64_w, i32_w]
            rfl
          refine pure_ (i := 16) (N := some 97) (v := ?_) (a' := ?_) #[true, true, true, true, true, true, true, true, true, true, true, true, true, true, true, true, true, false, false, false, false, false, false, false, false] rfl rfl (by kernel_rfl) (fun _ _ _ h => h) (Or.inl ⟨by rfl, ?_⟩) ?_ ?_
          rotate_left
          · intro w'
            go_simp
            with_reducible rfl
          rotate_left
          · simp only [Act.put, List.setIfInBounds_toArray, List.set_cons_zero, List.set_cons_succ, i64_w, i32_w]
            rfl
          refine pure_ (i := 17) (N := some 98) (v := ?_) (a' := ?_) #[true, true, true, true, true, true, true, true, true, true, true, true, true, true, true, true, true, true, false, false, false, false, false, false, false] rfl rfl (by kernel_rfl) (fun _ _ _ h => h) (Or.inl ⟨by rfl, ?_⟩) ?_ ?_
          rotate_left
          · intro w'
            go_simp
            with_reducible rfl
          rotate_left
          · simp only [Act.put, List.setIfInBounds_toArray, List.set_cons_zero, List.set_cons_succ, i64_w, i32_w]
            rfl
          refine pure_ (i := 18) (N := some 99) (v := ?_) (a' := ?_) #[true, true, true, true, true, true, true, true, true, true, true, true, true, true, true, true, true, true, true, false, false, false, false, false, false] rfl rfl (by kernel_rfl) (fun _ _ _ h => h) (Or.inl ⟨by rfl, ?_⟩) ?_ ?_
          rotate_left
          · intro w'
            go_simp
            with_reducible rfl
          rotate_left
          · simp only [Act.put, List.setIfInBounds_toArray, List.set_cons_zero, List.set_cons_succ, i64_w, i32_w]
            rfl
          refine pure_ (i := 19) (N := some 100) (v := ?_) (a' := ?_) #[true, true, true, true, true, true, true, true, true, true, true, true, true, true, true, true, true, true, true, true, false, false, false, false, false] rfl rfl (by kernel_rfl) (fun _ _ _ h => h) (Or.inl ⟨by rfl, ?_⟩) ?_ ?_
          rotate_left
          · intro w'
            go_simp
            with_reducible rfl
          rotate_left
          · simp only [Act.put, List.setIfInBounds_toArray, List.set_cons_zero, List.set_cons_succ, i64_w, i32_w]
            rfl
          refine pure_ (i := 20) (N := some 101) (v := ?_) (a' := ?_) #[true, true, true, true, true, true, true, true, true, true, true, true, true, true, true, true, true, true, true, true, true, false, false, false, false] rfl rfl (by kernel_rfl) (fun _ _ _ h => h) (Or.inl ⟨by rfl, ?_⟩) ?_ ?_
          rotate_left
          · intro w'
            go_simp
            with_reducible rfl
          rotate_left
          · simp only [Act.put, List.setIfInBounds_toArray, List.set_cons_zero, List.set_cons_succ, i64_w, i32_w]
            rfl
          refine pure_ (i := 21) (N := some 102) (v := ?_) (a' := ?_) #[true, true, true, true, true, true, true, true, true, true, true, true, true, true, true, true, true, true, true, true, true, true, false, false, false] rfl rfl (by kernel_rfl) (fun _ _ _ h => h) (Or.inl ⟨by rfl, ?_⟩) ?_ ?_
          rotate_left
          · intro w'
            go_simp
            with_reducible rfl
          rotate_left
          · simp only [Act.put, List.setIfInBounds_toArray, List.set_cons_zero, List.set_cons_succ, i64_w, i32_w]
            rfl
          refine pure_ (i := 22) (N := some 103) (v := ?_) (a' := ?_) #[true, true, true, true, true, true, true, true, true, true, true, true, true, true, true, true, true, true, true, true, true, true, true, false, false] rfl rfl (by kernel_rfl) (fun _ _ _ h => h) (Or.inl ⟨by rfl, ?_⟩) ?_ ?_
          rotate_left
          · intro w'
            go_simp
            with_reducible rfl
          rotate_left
          · simp only [Act.put, List.setIfInBounds_toArray, List.set_cons_zero, List.set_cons_succ, i64_w, i32_w]
            rfl
          refine pure_ (i := 23) (N := some 104) (v := ?_) (a' := ?_) #[true, true, true, true, true, true, true, true, true, true, true, true, true, true, true, true, true, true, true, true, true, true, true, true, false] rfl rfl (by kernel_rfl) (fun _ _ _ h => h) (Or.inl ⟨by rfl, ?_⟩) ?_ ?_
          rotate_left
          · intro w'
            go_simp
            with_reducible rfl
          rotate_left
          · simp only [Act.put, List.setIfInBounds_toArray, List.set_cons_zero, List.set_cons_succ, i64_w, i32_w]
            rfl
          refine pure_ (i := 24) (N := some 105) (v := ?_) (a' := ?_) #[true, true, true, true, true, true, true, true, true, true, true, true, true, true, true, true, true, true, true, true, true, true, true, true, true] rfl rfl (by kernel_rfl) (fun _ _ _ h => h) (Or.inl ⟨by rfl, ?_⟩) ?_ ?_
          rotate_left
          · intro w'
            go_simp
            with_reducible rfl
          rotate_left
          · simp only [Act.put, List.setIfInBounds_toArray, List.set_cons_zero, List.set_cons_succ, i64_w, i32_w]
            rfl
          refine done_ (by kernel_rfl) ?_
          go_wp2_with fail
          refine (business_any g bb wk xs n x4 HC4.out).mono ?_
          rintro e x5 ⟨rfl, hb⟩
          have HB5 : Held (Below W0 w x5) := ⟨HB4.out.trans (hb.mono (by have := HB4.out.size; rw [HW0.out] at this; exact this))⟩
          have HC5 := Held.mk (HC4.out.below hb)
          clear hb HB4 HC4
          have HR : Held (busB wk xs n = true ∨ busB wk xs n = false) := ⟨by cases busB wk xs n <;> simp⟩
          rcases HR.out with hr | hr
          · have Hr := Held.mk hr
            rw [hr]
            clear hr HR
            go_wp2_with fail
            refine (add_any g bb wk xs x (-a) x5 HC5.out (by omega)).mono ?_
            intro e x6 hadd
            obtain ⟨r4, rfl, hA6, hb⟩ := add_opt hadd
            have HB6 : Held (Below W0 w x6) := ⟨HB5.out.trans (hb.mono (by have := HB5.out.size; rw [HW0.out] at this; exact this))⟩
            have HC6 := Held.mk (HC5.out.below hb)
            have HA6 := Held.mk hA6
            clear hadd hb hA6 HB5 HC5
            obtain rfl := up3 Hnd.out ha1' Hr.out HA1.out HA6.out
            simp only [addV]
            go_wp2
            go_roundw
            case rel => exact ⟨3, by first | rfl | go_num, by omega, HC6, HB6⟩
            case measure => simp [intOf]
          · rw [hr]
            clear hr HR
            go_wp2
            go_roundw
            case rel => exact ⟨3, by first | rfl | go_num, by omega, HC5, HB5⟩
            case measure => simp [intOf]
    · go_wp2_with fail
      refine (add_any g bb wk xs n a wr HC.out (by omega)).mono ?_
      intro e x1 hadd
      obtain ⟨r1, rfl, hA1, hb⟩ := add_opt hadd
      have HB1 : Held (Below W0 w x1) := ⟨HB.out.trans (hb.mono (by have := HB.out.size; rw [HW0.out] at this; exact this))⟩
      have HC1 := Held.mk (HC.out.below hb)
      have HA1 := Held.mk hA1
      clear hadd hb hA1 HB HC
      cases r1 with
      | none =>
        simp only [addV, noDayV]
        go_wp2
        go_ret
        exact ⟨rfl, HB1.out⟩
      | some x =>
        simp only [addV]
        obtain ⟨h41, h42, h43⟩ := up4 Hnd.out ha1' HA1.out
        obtain ⟨h51, h52⟩ := up5 Hnd.out ha1' hq1' HA1.out
        have Hxd := Held.mk h43
        obtain ⟨hxd1, hxd2⟩ := h43
        go_wp2_with fail
        refine (count_in g bb wk xs n x x1 HC1.out Hnd.out Hxd.out h42).mono ?_
        rintro e x2 ⟨rfl, hb⟩
        have HB2 : Held (Below W0 w x2) := ⟨HB1.out.trans (hb.mono (by have := HB1.out.size; rw [HW0.out] at this; exact this))⟩
        have HC2 := Held.mk (HC1.out.below hb)
        clear hb HB1 HC1
        rw [h41]
        go_wp2_with fail
        refine (business_any g bb wk xs n x2 HC2.out).mono ?_
        rintro e x3 ⟨rfl, hb⟩
        have HB3 : Held (Below W0 w x3) := ⟨HB2.out.trans (hb.mono (by have := HB2.out.size; rw [HW0.out] at this; exact this))⟩
        have HC3 := Held.mk (HC2.out.below hb)
        clear hb HB2 HC2
        obtain ⟨st, hst⟩ : ∃ st : Bool, busB wk xs n = st := ⟨_, rfl⟩
        rw [hst] at h41 ⊢
        clear hst
        obtain ⟨fn, hfn⟩ : ∃ fn, FB (busB wk xs) (n - 1) = fn := ⟨_, rfl⟩
        obtain ⟨fx, hfx⟩ : ∃ fx, FB (busB wk xs) (x - 1) = fx := ⟨_, rfl⟩
        obtain ⟨fq, hfq⟩ : ∃ fq, FB (busB wk xs) (x + q - 1) = fq := ⟨_, rfl⟩
        have Hfn := Held.mk hfn
        have Hfx := Held.mk hfx
        have Hfq := Held.mk hfq
        rw [hfn, hfx] at h41
        rw [hfq, hfx] at h51 h52
        clear hfn hfx hfq
        have hfn0 : 0 ≤ fn := by rw [← Hfn.out]; exact FB_nn _ (by omega)
        have hfn1 : fn ≤ 4000000 := by rw [← Hfn.out]; have := (FB_le (busB wk xs) (Int.le_refl 0) (show 0 ≤ n - 1 by omega)).2; rw [FB_zero] at this; omega
        cases st
        · simp only [bit, Bool.false_eq_true, if_false, if_true] at h41 ⊢
          by_cases hxq : x + q ≤ 3652059
          · have cq : decide (3652059 < x + q) = false := decide_eq_false (by omega)
            have hdq : isD (x + q) := by unfold isD; omega
            have Hdq := Held.mk hdq
            clear hdq
            go_wp2_with fail
            refine (count_in g bb wk xs x (x + q) x3 HC3.out Hxd.out Hdq.out (by omega)).mono ?_
            rintro e x4 ⟨rfl, hb⟩
            have HB4 : Held (Below W0 w x4) := ⟨HB3.out.trans (hb.mono (by have := HB3.out.size; rw [HW0.out] at this; exact this))⟩
            have HC4 := Held.mk (HC3.out.below hb)
            clear hb HB3 HC3
            rw [Hfq.out, Hfx.out]
            go_wp2_with fail
            refine (count_in g bb wk xs n (x + q) x4 HC4.out Hnd.out Hdq.out (by omega)).mono ?_
            rintro e x5 ⟨rfl, hb⟩
            have HB5 : Held (Below W0 w x5) := ⟨HB4.out.trans (hb.mono (by have := HB4.out.size; rw [HW0.out] at this; exact this))⟩
            have HC5 := Held.mk (HC4.out.below hb)
            clear hb HB4 HC4
            rw [Hfq.out, Hfn.out]
            have c1 : decide (1 ≤ fq - fx) = true := decide_eq_true (by omega)
            have c2 : decide (fq - fx ≤ q) = true := decide_eq_true (by omega)
            have ce : (a - 1 + 0 + (fq - fx) == fq - fn) = true := beq_iff_eq.2 (by omega)
            have ce2 : (a - 1 + (fq - fx) == fq - fn) = true := beq_iff_eq.2 (by omega)
            go_wp2
            go_ret
            exact ⟨rfl, HB5.out⟩
          · have cq : decide (3652059 < x + q) = true := decide_eq_true (by omega)
            go_wp2
            go_ret
            exact ⟨rfl, HB3.out⟩
        · simp only [bit, Bool.false_eq_true, if_false, if_true] at h41 ⊢
          by_cases hxq : x + q ≤ 3652059
          · have cq : decide (3652059 < x + q) = false := decide_eq_false (by omega)
            have hdq : isD (x + q) := by unfold isD; omega
            have Hdq := Held.mk hdq
            clear hdq
            go_wp2_with fail
            refine (count_in g bb wk xs x (x + q) x3 HC3.out Hxd.out Hdq.out (by omega)).mono ?_
            rintro e x4 ⟨rfl, hb⟩
            have HB4 : Held (Below W0 w x4) := ⟨HB3.out.trans (hb.mono (by have := HB3.out.size; rw [HW0.out] at this; exact this))⟩
            have HC4 := Held.mk (HC3.out.below hb)
            clear hb HB3 HC3
            rw [Hfq.out, Hfx.out]
            go_wp2_with fail
            refine (count_in g bb wk xs n (x + q) x4 HC4.out Hnd.out Hdq.out (by omega)).mono ?_
            rintro e x5 ⟨rfl, hb⟩
            have HB5 : Held (Below W0 w x5) := ⟨HB4.out.trans (hb.mono (by have := HB4.out.size; rw [HW0.out] at this; exact this))⟩
            have HC5 := Held.mk (HC4.out.below hb)
            clear hb HB4 HC4
            rw [Hfq.out, Hfn.out]
            have c1 : decide (1 ≤ fq - fx) = true := decide_eq_true (by omega)
            have c2 : decide (fq - fx ≤ q) = true := decide_eq_true (by omega)
            have ce : (a - 1 + 1 + (fq - fx) == fq - fn) = true := beq_iff_eq.2 (by omega)
            have ce2 : (a + (fq - fx) == fq - fn) = true := beq_iff_eq.2 (by omega)
            go_wp2
            go_ret
            exact ⟨rfl, HB5.out⟩
          · have cq : decide (3652059 < x + q) = true := decide_eq_true (by omega)
            go_wp2
            go_ret
            exact ⟨rfl, HB3.out⟩
end Cal
end Go.Proofs.Ytlnkdgjlbpldpaa
