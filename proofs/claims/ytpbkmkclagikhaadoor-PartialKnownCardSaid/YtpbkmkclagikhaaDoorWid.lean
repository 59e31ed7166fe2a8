/- The document's numbers of two words: sums, differences, products, quotients: walked. -/
import Derived.Test.YtpbkmkclagikhaaDoorDiv
namespace Go.Proofs.YtpbkmkclagikhaaDoor
set_option linter.unusedVariables false
set_option linter.unusedSimpArgs false
namespace Wid
open Go.RowKit Mem Dvs
/-- The two words of a number. -/
def hi (n : Nat) : Nat := n / 18446744073709551616
def lo (n : Nat) : Nat := n % 18446744073709551616
def wd (n : Nat) : Value := .agg #[.int .u64 (hi n), .int .u64 (lo n)]
def top : Nat := 340282366920938463463374607431768211456
theorem hi_lo (n : Nat) : hi n * 18446744073709551616 + lo n = n := by unfold hi lo; omega
theorem lo_lt (n : Nat) : lo n < 18446744073709551616 := by unfold lo; omega
theorem hi_lt {n : Nat} (h : n < top) : hi n < 18446744073709551616 := by unfold hi; unfold top at h; omega
theorem two_of (h l : Nat) (hl : l < 18446744073709551616) : hi (h * 18446744073709551616 + l) = h ∧ lo (h * 18446744073709551616 + l) = l := by unfold hi lo; omega
theorem hi_small {n : Nat} (h : n < 18446744073709551616) : hi n = 0 := by unfold hi; omega
theorem lo_small {n : Nat} (h : n < 18446744073709551616) : lo n = n := by unfold lo; omega
set_option maxHeartbeats 4000000 in
set_option maxRecDepth 100000 in
theorem plus_in (x y : Nat) (w : World) (h : x + y < top) :
    Calls Tryd.prog 62 #[wd x, wd y] w fun e w' => e = .returned (wd (x + y)) ∧ Below w.heap.size w w' := by
  unfold wd
  have hl1 := lo_lt x
  have hl2 := lo_lt y
  have hx := hi_lo x
  have hy := hi_lo y
  unfold top at h
  have key : (lo x + lo y < 18446744073709551616 ∧ hi (x + y) = hi x + hi y ∧ lo (x + y) = lo x + lo y ∧ hi x + hi y < 18446744073709551616) ∨
      (18446744073709551616 ≤ lo x + lo y ∧ hi (x + y) = hi x + hi y + 1 ∧ lo (x + y) = lo x + lo y - 18446744073709551616 ∧ hi x + hi y + 1 < 18446744073709551616) := by
    unfold hi lo at *; omega
  generalize hi (x + y) = H at *
  generalize lo (x + y) = L at *
  generalize hi x = a at *
  generalize lo x = b at *
  generalize hi y = c at *
  generalize lo y = d at *
  clear hx hy h
  have HB : Held (Below w.heap.size w (((w.alloc (.cells #[.int .u64 a, .int .u64 b] 124)).alloc (.cells #[.int .u64 c, .int .u64 d] 124)).alloc (.cells #[.int .u64 H, .int .u64 L] 124))) := ⟨(((Below.refl _ _).alloc (Nat.le_refl _) _).alloc (by simp) _).alloc (by simp; omega) _⟩
  have hN := Blk.new ((w.alloc (.cells #[.int .u64 a, .int .u64 b] 124)).alloc (.cells #[.int .u64 c, .int .u64 d] 124)) 124 #[.int .u64 H, .int .u64 L]
  simp only [World.size_alloc] at hN
  have HN := Held.mk hN
  clear hN
  have eS : IntKind.u64.wrap ((b : Int) + (d : Int)) = (L : Int) := by rw [wrap_u64]; omega
  rcases key with ⟨k1, k2, k3, k4⟩ | ⟨k1, k2, k3, k4⟩
  · have hs : decide (L < b) = false := decide_eq_false (by omega)
    have eH : IntKind.u64.wrap ((a : Int) + (c : Int)) = (H : Int) := by rw [wrap_u64]; omega
    clear k1 k2 k3 k4 hl1 hl2
    go_enter Tryd.func62, Tryd.ntmps62
    go_wp2
    exact bodyPost_ret (results_cell_row rfl _ _ (w.heap.size + 1 + 1) 124 #[.int .u64 H, .int .u64 L] (0, 0) _ rfl HN.out Tryd.underlying124 rfl (by kernel_rfl)) rfl ⟨rfl, HB.out⟩
  · have hs : decide (L < b) = true := decide_eq_true (by omega)
    have eH : IntKind.u64.wrap (IntKind.u64.wrap ((a : Int) + (c : Int)) + 1) = (H : Int) := by rw [wrap_u64, wrap_u64]; omega
    clear k1 k2 k3 k4 hl1 hl2
    go_enter Tryd.func62, Tryd.ntmps62
    go_wp2
    exact bodyPost_ret (results_cell_row rfl _ _ (w.heap.size + 1 + 1) 124 #[.int .u64 H, .int .u64 L] (0, 0) _ rfl HN.out Tryd.underlying124 rfl (by kernel_rfl)) rfl ⟨rfl, HB.out⟩
set_option maxHeartbeats 4000000 in
set_option maxRecDepth 100000 in
theorem minus_in (x y : Nat) (w : World) (hx0 : x < top) (h : y ≤ x) :
    Calls Tryd.prog 65 #[wd x, wd y] w fun e w' => e = .returned (wd (x - y)) ∧ Below w.heap.size w w' := by
  unfold wd
  have hl1 := lo_lt x
  have hl2 := lo_lt y
  have hx := hi_lo x
  have hy := hi_lo y
  unfold top at hx0
  have key : (lo y ≤ lo x ∧ hi (x - y) = hi x - hi y ∧ lo (x - y) = lo x - lo y ∧ hi y ≤ hi x ∧ hi x < 18446744073709551616) ∨
      (lo x < lo y ∧ hi (x - y) = hi x - hi y - 1 ∧ lo (x - y) = lo x + 18446744073709551616 - lo y ∧ hi y + 1 ≤ hi x ∧ hi x < 18446744073709551616) := by
    unfold hi lo at *; omega
  generalize hi (x - y) = H at *
  generalize lo (x - y) = L at *
  generalize hi x = a at *
  generalize lo x = b at *
  generalize hi y = c at *
  generalize lo y = d at *
  clear hx hy h hx0
  have HB : Held (Below w.heap.size w (((w.alloc (.cells #[.int .u64 a, .int .u64 b] 124)).alloc (.cells #[.int .u64 c, .int .u64 d] 124)).alloc (.cells #[.int .u64 H, .int .u64 L] 124))) := ⟨(((Below.refl _ _).alloc (Nat.le_refl _) _).alloc (by simp) _).alloc (by simp; omega) _⟩
  have hN := Blk.new ((w.alloc (.cells #[.int .u64 a, .int .u64 b] 124)).alloc (.cells #[.int .u64 c, .int .u64 d] 124)) 124 #[.int .u64 H, .int .u64 L]
  simp only [World.size_alloc] at hN
  have HN := Held.mk hN
  clear hN
  have eS : IntKind.u64.wrap ((b : Int) - (d : Int)) = (L : Int) := by rw [wrap_u64]; omega
  rcases key with ⟨k1, k2, k3, k4, k5⟩ | ⟨k1, k2, k3, k4, k5⟩
  · have hs : decide (b < d) = false := decide_eq_false (by omega)
    have eH : IntKind.u64.wrap ((a : Int) - (c : Int)) = (H : Int) := by rw [wrap_u64]; omega
    clear k1 k2 k3 k4 k5 hl1 hl2
    go_enter Tryd.func65, Tryd.ntmps65
    go_wp2
    exact bodyPost_ret (results_cell_row rfl _ _ (w.heap.size + 1 + 1) 124 #[.int .u64 H, .int .u64 L] (0, 0) _ rfl HN.out Tryd.underlying124 rfl (by kernel_rfl)) rfl ⟨rfl, HB.out⟩
  · have hs : decide (b < d) = true := decide_eq_true (by omega)
    have eH : IntKind.u64.wrap (IntKind.u64.wrap ((a : Int) - (c : Int)) - 1) = (H : Int) := by rw [wrap_u64, wrap_u64]; omega
    clear k1 k2 k3 k4 k5 hl1 hl2
    go_enter Tryd.func65, Tryd.ntmps65
    go_wp2
    exact bodyPost_ret (results_cell_row rfl _ _ (w.heap.size + 1 + 1) 124 #[.int .u64 H, .int .u64 L] (0, 0) _ rfl HN.out Tryd.underlying124 rfl (by kernel_rfl)) rfl ⟨rfl, HB.out⟩
set_option maxHeartbeats 4000000 in
set_option maxRecDepth 100000 in
theorem less_in (x y : Nat) (w : World) :
    Calls Tryd.prog 64 #[wd x, wd y] w fun e w' => e = .returned (.bool (decide (x < y))) ∧ Below w.heap.size w w' := by
  unfold wd
  have hl1 := lo_lt x
  have hl2 := lo_lt y
  have hx := hi_lo x
  have hy := hi_lo y
  have HB : Held (Below w.heap.size w ((w.alloc (.cells #[.int .u64 (hi x), .int .u64 (lo x)] 124)).alloc (.cells #[.int .u64 (hi y), .int .u64 (lo y)] 124))) := ⟨((Below.refl _ _).alloc (Nat.le_refl _) _).alloc (by simp) _⟩
  have key : (decide (hi x < hi y) = true ∧ decide (x < y) = true) ∨ (decide (hi x < hi y) = false ∧ ((hi x : Int) == (hi y : Int)) = false ∧ ¬ hi x = hi y ∧ decide (x < y) = false) ∨
      (hi x = hi y ∧ decide (lo x < lo y) = decide (x < y)) := by
    rcases Nat.lt_trichotomy (hi x) (hi y) with h | h | h
    · exact .inl ⟨decide_eq_true h, decide_eq_true (by omega)⟩
    · exact .inr (.inr ⟨h, by rw [decide_eq_decide]; omega⟩)
    · exact .inr (.inl ⟨decide_eq_false (by omega), beq_eq_false_iff_ne.2 (by omega), by omega, decide_eq_false (by omega)⟩)
  generalize decide (x < y) = r at *
  generalize hi x = a at *
  generalize lo x = b at *
  generalize hi y = c at *
  generalize lo y = d at *
  clear hx hy hl1 hl2
  rcases key with ⟨k1, k2⟩ | ⟨k1, k2, k3, k4⟩ | ⟨k1, k2⟩
  · subst k2
    go_enter Tryd.func64, Tryd.ntmps64
    go_wp2
    go_ret
    exact ⟨rfl, HB.out⟩
  · subst k4
    go_enter Tryd.func64, Tryd.ntmps64
    go_wp2
    go_ret
    exact ⟨rfl, HB.out⟩
  · subst k1
    subst k2
    go_enter Tryd.func64, Tryd.ntmps64
    go_wp2
    go_ret
    exact ⟨by simp, HB.out⟩
theorem m32 (x : Nat) : (x : Int) / 4294967296 = ((x / 4294967296 : Nat) : Int) := by omega
/-- A product of halves. -/
theorem half_mul {a b : Nat} (ha : a < 4294967296) (hb : b < 4294967296) : a * b < 18446744065119617025 + 1 := by
  have := Nat.mul_le_mul (show a ≤ 4294967295 by omega) (show b ≤ 4294967295 by omega)
  omega
theorem product (a b : Nat) : a * b = (a / 4294967296 * (b / 4294967296)) * 18446744073709551616 + (a % 4294967296) * (b % 4294967296) + (a / 4294967296 * (b % 4294967296)) * 4294967296 + (a % 4294967296 * (b / 4294967296)) * 4294967296 := by
  have h1 : a = a / 4294967296 * 4294967296 + a % 4294967296 := by omega
  have h2 : b = b / 4294967296 * 4294967296 + b % 4294967296 := by omega
  generalize a / 4294967296 = a1 at *
  generalize a % 4294967296 = a0 at *
  generalize b / 4294967296 = b1 at *
  generalize b % 4294967296 = b0 at *
  subst h1
  subst h2
  rw [Nat.add_mul, Nat.mul_add, Nat.mul_add]
  rw [show a1 * 4294967296 * (b1 * 4294967296) = a1 * b1 * 18446744073709551616 from by rw [Nat.mul_mul_mul_comm], show a1 * 4294967296 * b0 = a1 * b0 * 4294967296 from Nat.mul_right_comm _ _ _, show a0 * (b1 * 4294967296) = a0 * b1 * 4294967296 from (Nat.mul_assoc _ _ _).symm]
  omega
theorem split32 (p : Nat) : p / 4294967296 * 18446744073709551616 + p % 4294967296 * 4294967296 = p * 4294967296 := by omega
theorem shifted (p : Nat) (h : p < 18446744073709551616) : ∃ x1 x2 : Nat, (p : Int) / 4294967296 = (x1 : Int) ∧ IntKind.u64.wrap ((p : Int) * 4294967296) = (x2 : Int) ∧ Held (wd (p * 4294967296) = .agg #[.int .u64 x1, .int .u64 x2]) := by
  refine ⟨p / 4294967296, p % 4294967296 * 4294967296, by omega, by rw [wrap_u64]; omega, ⟨?_⟩⟩
  have h1 := two_of (p / 4294967296) (p % 4294967296 * 4294967296) (by omega)
  rw [split32] at h1
  unfold wd
  rw [h1.1, h1.2]
set_option maxHeartbeats 4000000 in
set_option maxRecDepth 100000 in
theorem times_in (a b : Nat) (w : World) (ha : a < 18446744073709551616) (hb : b < 18446744073709551616) :
    Calls Tryd.prog 60 #[.int .u64 a, .int .u64 b] w fun e w' => e = .returned (wd (a * b)) ∧ Below w.heap.size w w' := by
  have hp := product a b
  have ha1 : a / 4294967296 < 4294967296 := by omega
  have ha0 : a % 4294967296 < 4294967296 := by omega
  have hb1 : b / 4294967296 < 4294967296 := by omega
  have hb0 : b % 4294967296 < 4294967296 := by omega
  have e1 : (a : Int) / 4294967296 = ((a / 4294967296 : Nat) : Int) := by omega
  have e2 : (a : Int) % 4294967296 = ((a % 4294967296 : Nat) : Int) := by omega
  have e3 : (b : Int) / 4294967296 = ((b / 4294967296 : Nat) : Int) := by omega
  have e4 : (b : Int) % 4294967296 = ((b % 4294967296 : Nat) : Int) := by omega
  generalize a / 4294967296 = a1 at *
  generalize a % 4294967296 = a0 at *
  generalize b / 4294967296 = b1 at *
  generalize b % 4294967296 = b0 at *
  have q11 := half_mul ha1 hb1
  have q00 := half_mul ha0 hb0
  have q10 := half_mul ha1 hb0
  have q01 := half_mul ha0 hb1
  have w11 : IntKind.u64.wrap ((a1 : Int) * (b1 : Int)) = ((a1 * b1 : Nat) : Int) := by rw [← Int.natCast_mul]; exact wrap_nat _ (by omega)
  have w00 : IntKind.u64.wrap ((a0 : Int) * (b0 : Int)) = ((a0 * b0 : Nat) : Int) := by rw [← Int.natCast_mul]; exact wrap_nat _ (by omega)
  have w10 : IntKind.u64.wrap ((a1 : Int) * (b0 : Int)) = ((a1 * b0 : Nat) : Int) := by rw [← Int.natCast_mul]; exact wrap_nat _ (by omega)
  have w01 : IntKind.u64.wrap ((a0 : Int) * (b1 : Int)) = ((a0 * b1 : Nat) : Int) := by rw [← Int.natCast_mul]; exact wrap_nat _ (by omega)
  generalize a1 * b1 = p11 at *
  generalize a0 * b0 = p00 at *
  generalize a1 * b0 = p10 at *
  generalize a0 * b1 = p01 at *
  have hab : a * b < top := by
    have := Nat.mul_le_mul (show a ≤ 18446744073709551615 by omega) (show b ≤ 18446744073709551615 by omega)
    unfold top; omega
  generalize a * b = ab at *
  -- the three wide numbers
  obtain ⟨x1, x2, d10, s10, W10⟩ := shifted p10 (by omega)
  obtain ⟨y1, y2, d01, s01, W01⟩ := shifted p01 (by omega)
  have W11 : Held (wd (p11 * 18446744073709551616 + p00) = .agg #[.int .u64 p11, .int .u64 p00]) := ⟨by unfold wd; rw [(two_of p11 p00 (by omega)).1, (two_of p11 p00 (by omega)).2]⟩
  have HP1 := Held.mk (fun w => plus_in (p11 * 18446744073709551616 + p00) (p10 * 4294967296) w (by omega))
  have HP2 := Held.mk (fun w => plus_in (p11 * 18446744073709551616 + p00 + p10 * 4294967296) (p01 * 4294967296) w (by omega))
  rw [W11.out, W10.out] at HP1
  rw [W01.out, ← hp] at HP2
  clear hp q11 q00 q10 q01 ha1 ha0 hb1 hb0 hab W11 W10 W01 ha hb
  obtain ⟨z, hz⟩ : ∃ z, z = p11 * 18446744073709551616 + p00 + p10 * 4294967296 := ⟨_, rfl⟩
  rw [← hz] at HP1 HP2
  clear hz
  go_enter Tryd.func60, Tryd.ntmps60
  have HB : Held (Below w.heap.size w ((w.alloc (.cells #[.int .u64 0, .int .u64 0] 124)).alloc (.cells #[.int .u64 p11, .int .u64 p00] 124))) := ⟨((Below.refl _ _).alloc (Nat.le_refl _) _).alloc (by simp) _⟩
  have HK0 := Held.mk ((Blk.new w 124 #[.int .u64 0, .int .u64 0]).alloc (.cells #[.int .u64 p11, .int .u64 p00] 124))
  have hK1 := Blk.new (w.alloc (.cells #[.int .u64 0, .int .u64 0] 124)) 124 #[.int .u64 p11, .int .u64 p00]
  rw [World.size_alloc] at hK1
  have HK1 := Held.mk hK1
  clear hK1
  go_wp2_with fail
  generalize (w.alloc (.cells #[.int .u64 0, .int .u64 0] 124)).alloc (.cells #[.int .u64 p11, .int .u64 p00] 124) = w2 at *
  refine (HP1.out _).mono ?_
  rintro e w3 ⟨rfl, hb⟩
  have HB3 : Held (Below w.heap.size w w3) := ⟨HB.out.trans (hb.mono HB.out.size)⟩
  have HK03 := Held.mk (HK0.out.keep (Keep.of_below hb (fun _ => False)) (fun h => h))
  have HK13 := Held.mk (HK1.out.keep (Keep.of_below hb (fun _ => False)) (fun h => h))
  clear hb HB HK0 HK1 HP1
  obtain ⟨z1, z2, hwz⟩ : ∃ z1 z2 : Nat, wd z = .agg #[.int .u64 z1, .int .u64 z2] := ⟨_, _, rfl⟩
  obtain ⟨h1, h2, hwab⟩ : ∃ h1 h2 : Nat, wd ab = .agg #[.int .u64 h1, .int .u64 h2] := ⟨_, _, rfl⟩
  rw [hwz, hwab] at HP2
  rw [hwz]
  have HWab := Held.mk hwab
  clear hwz hwab
  have k0 := HK13.out.cell 0
  have k1 := HK13.out.cell 1
  have f0 := HK13.out.frozen 0
  have f1 := HK13.out.frozen 1
  simp at k0 k1
  have HB4 : Held (Below w.heap.size w ((w3.setCell ⟨w.heap.size + 1, 0, none⟩ (.int .u64 z1)).setCell ⟨w.heap.size + 1, 1, none⟩ (.int .u64 z2))) := ⟨(HB3.out.setCell (by simp) _).setCell (by simp) _⟩
  have HK04 : Held (Blk ((w3.setCell ⟨w.heap.size + 1, 0, none⟩ (.int .u64 z1)).setCell ⟨w.heap.size + 1, 1, none⟩ (.int .u64 z2)) w.heap.size 124 #[.int .u64 0, .int .u64 0]) := ⟨(HK03.out.far (by simp) _).far (by simp) _⟩
  go_wp2_with fail
  generalize (w3.setCell ⟨w.heap.size + 1, 0, none⟩ (.int .u64 z1)).setCell ⟨w.heap.size + 1, 1, none⟩ (.int .u64 z2) = w4 at *
  refine (HP2.out _).mono ?_
  rintro e w5 ⟨rfl, hb⟩
  have HB5 : Held (Below w.heap.size w w5) := ⟨HB4.out.trans (hb.mono HB4.out.size)⟩
  have HK5 := Held.mk (HK04.out.keep (Keep.of_below hb (fun _ => False)) (fun h => h))
  clear hb HB4 HK04 HP2 k0 k1 f0 f1
  have k0 := HK5.out.cell 0
  have k1 := HK5.out.cell 1
  have f0 := HK5.out.frozen 0
  have f1 := HK5.out.frozen 1
  simp at k0 k1
  go_wp2
  exact bodyPost_ret (results_cell_row rfl _ _ w.heap.size 124 #[.int .u64 h1, .int .u64 h2] (0, 0) _ rfl ((HK5.out.set_ 0 (.int .u64 h1)).set_ 1 (.int .u64 h2)) Tryd.underlying124 rfl (by kernel_rfl)) rfl ⟨by rw [HWab.out], (HB5.out.setCell (Nat.le_refl _) _).setCell (Nat.le_refl _) _⟩
end Wid
end Go.Proofs.YtpbkmkclagikhaaDoor
