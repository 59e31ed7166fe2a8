/- The document's calendar: Add. -/
import Derived.Test.YtlnkdgjlbpldpaaDoorRca
namespace Go.Proofs.YtlnkdgjlbpldpaaDoor
set_option linter.unusedVariables false
set_option linter.unusedSimpArgs false
namespace Cal
open Go.RowKit Mem Go.Proofs.YtlnkdgjlbpldpaaDoorW.PrintLast

theorem up_fit {B : Int → Bool} {n k : Int} {r : Option Int} (h : AddR B n k r) (hn : isD n) (hk : 0 < k) : (∀ y, r = some y → isD y ∧ B y = true ∧ FB B y = FB B n + k) ∧ (r = none → FB B 3652059 < FB B n + k) := by
  refine ⟨fun y hy => ?_, fun hy => ?_⟩
  · obtain ⟨h1, _, h2, _⟩ := h.yes y hy
    exact ⟨h1, h2 hk⟩
  · rcases h.no hy with h | h | h
    · exact absurd hn h
    · exact h.2
    · omega
theorem dn_fit {B : Int → Bool} {n k : Int} {r : Option Int} (h : AddR B n k r) (hn : isD n) (hk : k < 0) : (∀ y, r = some y → isD y ∧ B y = true ∧ FB B (y - 1) = FB B (n - 1) + k) ∧ (r = none → FB B (n - 1) + k < 0) := by
  refine ⟨fun y hy => ?_, fun hy => ?_⟩
  · obtain ⟨h1, _, _, h2⟩ := h.yes y hy
    exact ⟨h1, h2 hk⟩
  · rcases h.no hy with h | h | h
    · exact absurd hn h
    · omega
    · exact h.2
theorem FB_top (B : Int → Bool) {y : Int} (h : isD y) : FB B y ≤ FB B 3652059 := (FB_le B (by have := h.1; omega) h.2).1
theorem FB_of {B : Int → Bool} {y : Int} (h : isD y) (hb : B y = true) : FB B y = FB B (y - 1) + 1 := by
  have := FB_pred B y h.1
  rw [hb] at this
  simpa [bit] using this
theorem FB_inj' (B : Int → Bool) {x y : Int} (hx : isD x) (hy : isD y) (bx : B x = true) (by_ : B y = true) (h : FB B (x - 1) = FB B (y - 1)) : x = y :=
  FB_inj B hx.1 hy.1 bx by_ (by rw [FB_of hx bx, FB_of hy by_, h])

/-- What Add answers is one. -/
theorem AddR.uniq {B : Int → Bool} {n k : Int} {r s : Option Int} (hn : isD n) (h1 : AddR B n k r) (h2 : AddR B n k s) : r = s := by
  rcases Int.lt_trichotomy k 0 with hk | rfl | hk
  · have f1 := dn_fit h1 hn hk
    have f2 := dn_fit h2 hn hk
    cases r with
    | none =>
      cases s with
      | none => rfl
      | some y =>
        obtain ⟨a, b, c⟩ := f2.1 y rfl
        have := f1.2 rfl
        have := FB_nn B (a := y - 1) (by have := a.1; omega)
        omega
    | some x =>
      obtain ⟨a, b, c⟩ := f1.1 x rfl
      cases s with
      | none =>
        have := f2.2 rfl
        have := FB_nn B (a := x - 1) (by have := a.1; omega)
        omega
      | some y =>
        obtain ⟨a', b', c'⟩ := f2.1 y rfl
        rw [FB_inj' B a a' b b' (by omega)]
  · have key : ∀ t, AddR B n 0 t → t = some n := fun t h => by
      cases t with
      | none =>
        rcases h.no rfl with h | h | h
        · exact absurd hn h
        · omega
        · omega
      | some y => rw [(h.yes y rfl).2.1 rfl]
    rw [key r h1, key s h2]
  · have f1 := up_fit h1 hn hk
    have f2 := up_fit h2 hn hk
    cases r with
    | none =>
      cases s with
      | none => rfl
      | some y =>
        obtain ⟨a, b, c⟩ := f2.1 y rfl
        have := f1.2 rfl
        have := FB_top B a
        omega
    | some x =>
      obtain ⟨a, b, c⟩ := f1.1 x rfl
      cases s with
      | none =>
        have := f2.2 rfl
        have := FB_top B a
        omega
      | some y =>
        obtain ⟨a', b', c'⟩ := f2.1 y rfl
        rw [FB_inj B a.1 a'.1 b b' (by omega)]
structure UpJ (B : Int → Bool) (d k x j : Int) : Prop where
  rng : 0 ≤ j ∧ j ≤ k
  rx : d ≤ x ∧ x ≤ 3652060
  cnt : FB B x = FB B d + (k - j)
  hit : j = 0 → 0 < k → B x = true
  nul : k = 0 → x = d
structure DnJ (B : Int → Bool) (d k x j : Int) : Prop where
  rng : k ≤ j ∧ j ≤ 0
  rx : 0 ≤ x ∧ x ≤ d
  cnt : FB B (x - 1) = FB B (d - 1) + (k - j)
  hit : j = 0 → B x = true
theorem UpJ.step {B : Int → Bool} {d k x j : Int} (h : UpJ B d k x j) (hd : isD d) (hj : 0 < j) (hx : isD x) : (B (x + 1) = true → UpJ B d k (x + 1) (j - 1)) ∧ (B (x + 1) = false → UpJ B d k (x + 1) j) := by
  have hs := FB_succ B x (by have := hx.1; omega)
  have h1 := h.rng
  have h2 := h.rx
  have h3 := h.cnt
  obtain ⟨hx1, hx2⟩ := hx
  refine ⟨fun hb => ⟨by omega, by omega, ?_, fun _ _ => hb, fun h0 => by omega⟩, fun hb => ⟨h1, by omega, ?_, fun h0 => by omega, fun h0 => by omega⟩⟩
  · rw [hs, hb]; simp only [bit, if_true]; omega
  · rw [hs, hb]; simp only [bit, Bool.false_eq_true, if_false]; omega
theorem DnJ.step {B : Int → Bool} {d k x j : Int} (h : DnJ B d k x j) (hdom : ∀ i, B i = true → isD i) (hj : j < 0) (hx : isD x) : (B (x - 1) = true → DnJ B d k (x - 1) (j + 1)) ∧ (B (x - 1) = false → DnJ B d k (x - 1) j) := by
  have h1 := h.rng
  have h2 := h.rx
  have h3 := h.cnt
  obtain ⟨hx1, hx2⟩ := hx
  refine ⟨fun hb => ?_, fun hb => ?_⟩
  · have hd := hdom _ hb
    have hp := FB_pred B (x - 1) hd.1
    rw [hb] at hp
    simp only [bit, if_true] at hp
    exact ⟨by omega, by omega, by omega, fun _ => hb⟩
  · by_cases h0 : x - 1 = 0
    · refine ⟨h1, by omega, ?_, fun h0 => by omega⟩
      rw [h0] at h3 ⊢
      exact h3
    · have hp := FB_pred B (x - 1) (by omega)
      rw [hb] at hp
      simp only [bit, Bool.false_eq_true, if_false] at hp
      exact ⟨h1, by omega, by omega, fun h0 => by omega⟩
theorem UpJ.end_ {B : Int → Bool} {d k x j : Int} (h : UpJ B d k x j) (hdom : ∀ i, B i = true → isD i) (hd : isD d) (he : j = 0 ∨ ¬ isD x) : (isD x → AddR B d k (some x)) ∧ (¬ isD x → AddR B d k none) := by
  have h1 := h.rng
  have h2 := h.rx
  have h3 := h.cnt
  obtain ⟨hd1, hd2⟩ := hd
  refine ⟨fun hx => ⟨fun y hy => ?_, fun hy => by cases hy⟩, fun hx => ⟨fun y hy => by (cases hy), fun _ => ?_⟩⟩
  · obtain rfl : x = y := by injection hy
    have h0 : j = 0 := he.elim id (fun h => absurd hx h)
    exact ⟨hx, h.nul, fun hk => ⟨h.hit h0 hk, by omega⟩, fun hk => by omega⟩
  · have hxe : x = 3652060 := by unfold isD at hx; omega
    have hj : j ≠ 0 := fun h0 => by
      by_cases hk : 0 < k
      · exact hx (hdom _ (h.hit h0 hk))
      · have := h.nul (by omega)
        exact hx (by rw [this]; exact ⟨hd1, hd2⟩)
    have hs := FB_succ B 3652059 (by omega)
    have hb : B 3652060 = false := Bool.eq_false_iff.2 (fun hb => by have := (hdom _ hb).2; omega)
    rw [show (3652059 : Int) + 1 = 3652060 from rfl, hb] at hs
    simp only [bit, Bool.false_eq_true, if_false] at hs
    rw [hxe] at h3
    exact .inr (.inl ⟨by omega, by omega⟩)
theorem DnJ.end_ {B : Int → Bool} {d k x j : Int} (h : DnJ B d k x j) (hdom : ∀ i, B i = true → isD i) (hd : isD d) (hk : k < 0) (he : j = 0 ∨ ¬ isD x) : (isD x → AddR B d k (some x)) ∧ (¬ isD x → AddR B d k none) := by
  have h1 := h.rng
  have h2 := h.rx
  have h3 := h.cnt
  obtain ⟨hd1, hd2⟩ := hd
  refine ⟨fun hx => ⟨fun y hy => ?_, fun hy => by cases hy⟩, fun hx => ⟨fun y hy => by (cases hy), fun _ => ?_⟩⟩
  · obtain rfl : x = y := by injection hy
    have h0 : j = 0 := he.elim id (fun h => absurd hx h)
    exact ⟨hx, fun hk => by omega, fun hk => by omega, fun hk => ⟨h.hit h0, by omega⟩⟩
  · have hxe : x = 0 := by unfold isD at hx; omega
    have hj : j ≠ 0 := fun h0 => hx (hdom _ (h.hit h0))
    rw [hxe] at h3
    have : FB B (0 - 1) = 0 := rfl
    exact .inr (.inr ⟨hk, by omega⟩)
def rAddV : Option Int → Value
  | some y => .tuple #[.int .i64 y, .int .i64 0]
  | none => .tuple #[.int .i64 0, .int .i64 8]
def rAddRes (B : Int → Bool) (d k : Int) (w : World) (e : Ending) (w' : World) : Prop := ∃ r, e = .returned (rAddV r) ∧ AddR B d k r ∧ Below w.heap.size w w'

set_option maxHeartbeats 8000000 in
set_option maxRecDepth 100000 in
theorem rAdd_out (b0 b1 b2 b3 b4 b5 b6 : Bool) (A : Option Addr) (n c : Nat) (xs : List Int) (d k : Int) (w : World) (h : ¬ (1 ≤ d ∧ d ≤ 3652059)) : Calls Tryd.prog 56 #[calV b0 b1 b2 b3 b4 b5 b6 A n c, .int .i64 d, .int .i64 k] w fun e w' => e = .returned (.tuple #[.int .i64 0, .int .i64 8]) ∧ Below w.heap.size w w' := by
  unfold calV
  have H := Held.mk h
  clear h
  go_enter Tryd.func56, Tryd.ntmps56
  go_wp2_with fail
  refine (rIs_any d _).mono ?_
  rintro e wq ⟨rfl, rfl⟩
  rw [decide_eq_false H.out]
  go_wp2
  go_ret2
  exact ⟨rfl, (Below.refl _ _).alloc (Nat.le_refl _) _⟩
set_option maxHeartbeats 8000000 in
set_option maxRecDepth 100000 in
theorem add_out (g d k : Int) (gg : Nat) (w : World) (h : ¬ (1 ≤ d ∧ d ≤ 3652059)) (hk : -9223372036854775808 ≤ k ∧ k ≤ 9223372036854775807) : Calls Tryd.prog 51 #[.pointer (some ⟨gg, 0, none⟩), .int .i64 d, .int .i64 k] w fun e w' => e = .returned (.tuple #[.int .i64 0, noDayV]) ∧ w = w' := by
  have H := Held.mk h
  clear h
  have hc : decide (k < 0) = true ∨ decide (k < 0) = false := by cases decide (k < 0) <;> simp
  have hz : (k != 0) = true ∨ (k != 0) = false := by cases (k != 0) <;> simp
  rcases hc with hc | hc <;> rcases hz with hz | hz <;>
  · go_enter Tryd.func51, Tryd.ntmps51
    go_wp2
    refine wp_loop_rounds 1 ?_
    rw [rounds_succ]
    first
      | (go_wp2_with fail
         refine (isDay_any d _).mono ?_
         rintro e wq ⟨rfl, rfl⟩
         rw [decide_eq_false H.out]
         go_wp2_with fail
         refine (isDay_any d _).mono ?_
         rintro e wq ⟨rfl, rfl⟩
         rw [decide_eq_false H.out]
         go_wp2_with fail
         refine (noDay_any _).mono ?_
         rintro e wq ⟨rfl, rfl⟩
         go_wp2
         go_ret2
         exact ⟨rfl, rfl⟩)
      | (go_wp2_with fail
         refine (isDay_any d _).mono ?_
         rintro e wq ⟨rfl, rfl⟩
         rw [decide_eq_false H.out]
         go_wp2_with fail
         refine (noDay_any _).mono ?_
         rintro e wq ⟨rfl, rfl⟩
         go_wp2
         go_ret2
         exact ⟨rfl, rfl⟩)
set_option maxHeartbeats 8000000 in
set_option maxRecDepth 100000 in
theorem rAdd_in (b0 b1 b2 b3 b4 b5 b6 : Bool) (A : Option Addr) (n c : Nat) (xs : List Int) (d k : Int) (w : World) (hr : Lst w A n xs) (hn : n ≤ 17592186043904) (hd : isD d) (hk : -9223372036854775808 ≤ k ∧ k ≤ 9223372036854775807) : Calls Tryd.prog 56 #[calV b0 b1 b2 b3 b4 b5 b6 A n c, .int .i64 d, .int .i64 k] w (rAddRes (busB [b0, b1, b2, b3, b4, b5, b6] xs) d k w) := by
  have HB : Held (Below w.heap.size w (w.alloc (.cells #[.bool b0, .bool b1, .bool b2, .bool b3, .bool b4, .bool b5, .bool b6, .slice A n c] 55))) := ⟨(Below.refl _ _).alloc (Nat.le_refl _) _⟩
  have HL0 := Held.mk (hr.below HB.out)
  have HN0 := Held.mk (Blk.new w 55 #[.bool b0, .bool b1, .bool b2, .bool b3, .bool b4, .bool b5, .bool b6, .slice A n c])
  have Hd := Held.mk hd
  obtain ⟨hd1, hd2⟩ := hd
  obtain ⟨hk1, hk2⟩ := hk
  have Hdom : Held (∀ i, (busB [b0, b1, b2, b3, b4, b5, b6] xs) i = true → isD i) := ⟨fun i => busB_day⟩
  clear hr
  unfold calV
  go_enter Tryd.func56, Tryd.ntmps56
  go_wp2_with fail
  generalize w.alloc (.cells #[.bool b0, .bool b1, .bool b2, .bool b3, .bool b4, .bool b5, .bool b6, .slice A n c] 55) = w1 at *
  refine (rIs_any d w1).mono ?_
  rintro e wq ⟨rfl, rfl⟩
  rw [decide_eq_true (And.intro hd1 hd2)]
  generalize hg : w.heap.size = g at *
  have Hg := Held.mk hg
  clear hg
  by_cases hneg : k < 0
  · have Hneg := Held.mk hneg
    go_wp2
    refine wp_loop_rounds 1 ?_
    rw [rounds_succ]
    go_wp2
    go_loopw [1, 2] (fun v u wr => ∃ (x j : Int), v = .int .i64 x ∧ u = .int .i64 j ∧ k ≤ j ∧ j ≤ 0 ∧ 0 ≤ x ∧ x ≤ 3652060 ∧ Held (DnJ (busB [b0, b1, b2, b3, b4, b5, b6] xs) d k x j) ∧ Held (Blk wr g 55 #[.bool b0, .bool b1, .bool b2, .bool b3, .bool b4, .bool b5, .bool b6, .slice A n c]) ∧ Held (Lst wr A n xs) ∧ Held (Below g w wr)) (fun v _ _ => (intOf v + 1).toNat)
    case atStart => exact ⟨d, k, rfl, rfl, by omega, by omega, by omega, by omega, ⟨⟨by omega, by omega, by omega, fun h0 => by omega⟩⟩, HN0, HL0, HB⟩
    case round =>
      obtain ⟨x, j, rfl, rfl, hj1, hj2, hx1, hx2, HI, HN, HL, HBr⟩ := hrel
      clear HN0 HL0 HB
      have k0 := HN.out.cell 0
      have k1 := HN.out.cell 1
      have k2 := HN.out.cell 2
      have k3 := HN.out.cell 3
      have k4 := HN.out.cell 4
      have k5 := HN.out.cell 5
      have k6 := HN.out.cell 6
      have k7 := HN.out.cell 7
      simp at k0 k1 k2 k3 k4 k5 k6 k7
      by_cases hj : j < 0
      · have Hj := Held.mk hj
        go_wp2_with fail
        refine (rIs_any x wr).mono ?_
        rintro e wq ⟨rfl, rfl⟩
        by_cases hxd : 1 ≤ x ∧ x ≤ 3652059
        · rw [decide_eq_true hxd]
          have Hst := Held.mk (HI.out.step Hdom.out hj hxd)
          obtain ⟨hxd1, hxd2⟩ := hxd
          go_wp2_with fail
          refine (rBus_any b0 b1 b2 b3 b4 b5 b6 A n c xs (x - 1) wr HL.out hn).mono ?_
          rintro e w2 ⟨rfl, hb⟩
          have HB2 : Held (Below g w w2) := ⟨HBr.out.trans (hb.mono (by have := HBr.out.size; rw [Hg.out] at this; exact this))⟩
          have HN2 := Held.mk (HN.out.keep (Keep.of_below hb (fun _ => False)) (fun h => h))
          have HL2 := Held.mk (HL.out.below hb)
          clear hb HN HL HBr k0 k1 k2 k3 k4 k5 k6 k7
          have HR : Held ((busB [b0, b1, b2, b3, b4, b5, b6] xs) (x - 1) = true ∨ (busB [b0, b1, b2, b3, b4, b5, b6] xs) (x - 1) = false) := ⟨by cases (busB [b0, b1, b2, b3, b4, b5, b6] xs) (x - 1) <;> simp⟩
          rcases HR.out with hr | hr
          · have HI2 := Held.mk (Hst.out.1 hr)
            rw [hr]
            clear hr HR Hst HI
            go_wp2
            go_roundw
            case rel => exact ⟨(x - 1), (j + 1), by go_num, by go_num, by omega, by omega, by omega, by omega, HI2, HN2, HL2, HB2⟩
            case measure => simp [intOf]; omega
          · have HI2 := Held.mk (Hst.out.2 hr)
            rw [hr]
            clear hr HR Hst HI
            go_wp2
            go_roundw
            case rel => exact ⟨(x - 1), j, by go_num, rfl, by omega, by omega, by omega, by omega, HI2, HN2, HL2, HB2⟩
            case measure => simp [intOf]; omega
        · rw [decide_eq_false hxd]
          have Hxd := Held.mk hxd
          clear hxd
          have Hend := Held.mk (HI.out.end_ Hdom.out Hd.out Hneg.out (.inr Hxd.out))
          go_wp2_with fail
          refine (rIs_any x _).mono ?_
          rintro e wq ⟨rfl, rfl⟩
          by_cases hx : 1 ≤ x ∧ x ≤ 3652059
          · have Hf := Held.mk (Hend.out.1 hx)
            rw [decide_eq_true hx]
            clear hx
            go_wp2
            go_ret2
            exact ⟨some x, rfl, Hf.out, by rw [Hg.out]; exact HBr.out⟩
          · have Hf := Held.mk (Hend.out.2 hx)
            rw [decide_eq_false hx]
            clear hx
            go_wp2
            go_ret2
            exact ⟨none, rfl, Hf.out, by rw [Hg.out]; exact HBr.out⟩
      · have Hj := Held.mk hj
        have Hend := Held.mk (HI.out.end_ Hdom.out Hd.out Hneg.out (.inl (by omega)))
        go_wp2_with fail
        refine (rIs_any x _).mono ?_
        rintro e wq ⟨rfl, rfl⟩
        by_cases hx : 1 ≤ x ∧ x ≤ 3652059
        · have Hf := Held.mk (Hend.out.1 hx)
          rw [decide_eq_true hx]
          clear hx
          go_wp2
          go_ret2
          exact ⟨some x, rfl, Hf.out, by rw [Hg.out]; exact HBr.out⟩
        · have Hf := Held.mk (Hend.out.2 hx)
          rw [decide_eq_false hx]
          clear hx
          go_wp2
          go_ret2
          exact ⟨none, rfl, Hf.out, by rw [Hg.out]; exact HBr.out⟩
  · go_wp2
    go_loopw [1, 2] (fun v u wr => ∃ (x j : Int), v = .int .i64 x ∧ u = .int .i64 j ∧ 0 ≤ j ∧ j ≤ k ∧ 0 ≤ x ∧ x ≤ 3652060 ∧ Held (UpJ (busB [b0, b1, b2, b3, b4, b5, b6] xs) d k x j) ∧ Held (Blk wr g 55 #[.bool b0, .bool b1, .bool b2, .bool b3, .bool b4, .bool b5, .bool b6, .slice A n c]) ∧ Held (Lst wr A n xs) ∧ Held (Below g w wr)) (fun v _ _ => (3652061 - intOf v).toNat)
    case atStart => exact ⟨d, k, rfl, rfl, by omega, by omega, by omega, by omega, ⟨⟨by omega, by omega, by omega, fun h0 h1 => by omega, fun _ => rfl⟩⟩, HN0, HL0, HB⟩
    case round =>
      obtain ⟨x, j, rfl, rfl, hj1, hj2, hx1, hx2, HI, HN, HL, HBr⟩ := hrel
      clear HN0 HL0 HB
      have k0 := HN.out.cell 0
      have k1 := HN.out.cell 1
      have k2 := HN.out.cell 2
      have k3 := HN.out.cell 3
      have k4 := HN.out.cell 4
      have k5 := HN.out.cell 5
      have k6 := HN.out.cell 6
      have k7 := HN.out.cell 7
      simp at k0 k1 k2 k3 k4 k5 k6 k7
      by_cases hj : 0 < j
      · have Hj := Held.mk hj
        go_wp2_with fail
        refine (rIs_any x wr).mono ?_
        rintro e wq ⟨rfl, rfl⟩
        by_cases hxd : 1 ≤ x ∧ x ≤ 3652059
        · rw [decide_eq_true hxd]
          have Hst := Held.mk (HI.out.step Hd.out hj hxd)
          obtain ⟨hxd1, hxd2⟩ := hxd
          go_wp2_with fail
          refine (rBus_any b0 b1 b2 b3 b4 b5 b6 A n c xs (x + 1) wr HL.out hn).mono ?_
          rintro e w2 ⟨rfl, hb⟩
          have HB2 : Held (Below g w w2) := ⟨HBr.out.trans (hb.mono (by have := HBr.out.size; rw [Hg.out] at this; exact this))⟩
          have HN2 := Held.mk (HN.out.keep (Keep.of_below hb (fun _ => False)) (fun h => h))
          have HL2 := Held.mk (HL.out.below hb)
          clear hb HN HL HBr k0 k1 k2 k3 k4 k5 k6 k7
          have HR : Held ((busB [b0, b1, b2, b3, b4, b5, b6] xs) (x + 1) = true ∨ (busB [b0, b1, b2, b3, b4, b5, b6] xs) (x + 1) = false) := ⟨by cases (busB [b0, b1, b2, b3, b4, b5, b6] xs) (x + 1) <;> simp⟩
          rcases HR.out with hr | hr
          · have HI2 := Held.mk (Hst.out.1 hr)
            rw [hr]
            clear hr HR Hst HI
            go_wp2
            go_roundw
            case rel => exact ⟨(x + 1), (j - 1), by go_num, by go_num, by omega, by omega, by omega, by omega, HI2, HN2, HL2, HB2⟩
            case measure => simp [intOf]; omega
          · have HI2 := Held.mk (Hst.out.2 hr)
            rw [hr]
            clear hr HR Hst HI
            go_wp2
            go_roundw
            case rel => exact ⟨(x + 1), j, by go_num, rfl, by omega, by omega, by omega, by omega, HI2, HN2, HL2, HB2⟩
            case measure => simp [intOf]; omega
        · rw [decide_eq_false hxd]
          have Hxd := Held.mk hxd
          clear hxd
          go_wp2
          refine wp_loop_rounds 1 ?_
          rw [rounds_succ]
          have Hend := Held.mk (HI.out.end_ Hdom.out Hd.out (.inr Hxd.out))
          go_wp2_with fail
          refine (rIs_any x _).mono ?_
          rintro e wq ⟨rfl, rfl⟩
          by_cases hx : 1 ≤ x ∧ x ≤ 3652059
          · have Hf := Held.mk (Hend.out.1 hx)
            rw [decide_eq_true hx]
            clear hx
            go_wp2
            go_ret2
            exact ⟨some x, rfl, Hf.out, by rw [Hg.out]; exact HBr.out⟩
          · have Hf := Held.mk (Hend.out.2 hx)
            rw [decide_eq_false hx]
            clear hx
            go_wp2
            go_ret2
            exact ⟨none, rfl, Hf.out, by rw [Hg.out]; exact HBr.out⟩
      · have Hj := Held.mk hj
        go_wp2
        refine wp_loop_rounds 1 ?_
        rw [rounds_succ]
        have Hend := Held.mk (HI.out.end_ Hdom.out Hd.out (.inl (by omega)))
        go_wp2_with fail
        refine (rIs_any x _).mono ?_
        rintro e wq ⟨rfl, rfl⟩
        by_cases hx : 1 ≤ x ∧ x ≤ 3652059
        · have Hf := Held.mk (Hend.out.1 hx)
          rw [decide_eq_true hx]
          clear hx
          go_wp2
          go_ret2
          exact ⟨some x, rfl, Hf.out, by rw [Hg.out]; exact HBr.out⟩
        · have Hf := Held.mk (Hend.out.2 hx)
          rw [decide_eq_false hx]
          clear hx
          go_wp2
          go_ret2
          exact ⟨none, rfl, Hf.out, by rw [Hg.out]; exact HBr.out⟩
end Cal
end Go.Proofs.YtlnkdgjlbpldpaaDoor
