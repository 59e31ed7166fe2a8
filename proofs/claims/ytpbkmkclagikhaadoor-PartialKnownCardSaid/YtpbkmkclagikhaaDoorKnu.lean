/- Knuth's division of two words by one: what the steps of math/bits.Div64 reckon. Plain: no program in sight. -/
import Derived.IntWalk
namespace Go.Proofs.YtpbkmkclagikhaaDoor
namespace Knu

/-- An estimate q of (un * 2^32 + u1) over (y1 * 2^32 + y0), and what is left over y1: it is no less than the quotient. -/
structure Est (y1 y0 un u1 q r : Nat) : Prop where
  sum : q * y1 + r = un
  up : un * 4294967296 + u1 < (q + 1) * (y1 * 4294967296 + y0)
/-- The quotient itself. -/
structure Quo (y1 y0 un u1 q : Nat) : Prop where
  lo : q * (y1 * 4294967296 + y0) ≤ un * 4294967296 + u1
  up : un * 4294967296 + u1 < (q + 1) * (y1 * 4294967296 + y0)
  lt : q < 4294967296

section
variable {y1 y0 un u1 q r : Nat}
theorem Est.start (hy : 0 < y1) (hu : u1 < 4294967296) : Est y1 y0 un u1 (un / y1) (un - un / y1 * y1) := by
  have h1 : un / y1 * y1 ≤ un := Nat.div_mul_le_self _ _
  have h2 : un < (un / y1 + 1) * y1 := by
    have := Nat.div_add_mod un y1
    have h3 := Nat.mod_lt un hy
    rw [Nat.add_mul, Nat.mul_comm (un / y1) y1]; omega
  refine ⟨by omega, ?_⟩
  rw [Nat.mul_add, ← Nat.mul_assoc]
  generalize (un / y1 + 1) * y1 = a at *
  generalize (un / y1 + 1) * y0 = b at *
  omega
theorem Est.rest (hy : 0 < y1) : un - un / y1 * y1 < y1 := by
  have := Nat.div_add_mod un y1
  have h3 := Nat.mod_lt un hy
  rw [Nat.mul_comm (un / y1) y1]; omega
theorem Est.far (h : Est y1 y0 un u1 q r) (hu : u1 < 4294967296) (hun : un < y1 * 4294967296 + y0) (hq : 4294967296 ≤ q) : Est y1 y0 un u1 (q - 1) (r + y1) := by
  obtain ⟨p, rfl⟩ : ∃ p, q = p + 1 := ⟨q - 1, by omega⟩
  have h1 := h.sum
  refine ⟨by rw [Nat.add_mul] at h1; simp only [Nat.add_sub_cancel]; omega, ?_⟩
  simp only [Nat.add_sub_cancel]
  have : 4294967296 * (y1 * 4294967296 + y0) ≤ (p + 1) * (y1 * 4294967296 + y0) := Nat.mul_le_mul_right _ hq
  omega
theorem Est.over (h : Est y1 y0 un u1 q r) (hq : 4294967296 * r + u1 < q * y0) : Est y1 y0 un u1 (q - 1) (r + y1) := by
  have h0 : 0 < q := by
    rcases Nat.eq_zero_or_pos q with h | h
    · subst h; simp at hq
    · exact h
  obtain ⟨p, rfl⟩ : ∃ p, q = p + 1 := ⟨q - 1, by omega⟩
  have h1 := h.sum
  refine ⟨by rw [Nat.add_mul] at h1; simp only [Nat.add_sub_cancel]; omega, ?_⟩
  simp only [Nat.add_sub_cancel]
  rw [Nat.mul_add, ← Nat.mul_assoc]
  generalize (p + 1) * y1 = a at *
  generalize (p + 1) * y0 = b at *
  omega
theorem Est.done (h : Est y1 y0 un u1 q r) (hq : q < 4294967296) (hr : q * y0 ≤ 4294967296 * r + u1) : Quo y1 y0 un u1 q := by
  refine ⟨?_, h.up, hq⟩
  have h1 := h.sum
  rw [Nat.mul_add, ← Nat.mul_assoc]
  generalize q * y1 = a at *
  generalize q * y0 = b at *
  omega
theorem Est.stop (h : Est y1 y0 un u1 q r) (hy0 : y0 < 4294967296) (hun : un < y1 * 4294967296 + y0) (hr : 4294967296 ≤ r) : Quo y1 y0 un u1 q := by
  have h1 := h.sum
  have hq : q < 4294967296 := by
    rcases Nat.lt_or_ge q 4294967296 with hlt | hge
    · exact hlt
    · have : 4294967296 * y1 ≤ q * y1 := Nat.mul_le_mul_right _ hge
      omega
  refine h.done hq ?_
  have : q * y0 ≤ 4294967296 * 4294967295 := Nat.mul_le_mul (by omega) (by omega)
  omega
theorem Quo.rest (h : Quo y1 y0 un u1 q) : un * 4294967296 + u1 - q * (y1 * 4294967296 + y0) < y1 * 4294967296 + y0 := by
  have h1 := h.lo
  have h2 := h.up
  rw [Nat.add_mul, Nat.one_mul] at h2
  omega
end

/-- The size of what is divided, moved up by s. -/
theorem moved (hi lo s : Nat) (hs : s < 64) : (hi * 2 ^ s + lo / 2 ^ (64 - s)) * 18446744073709551616 + lo * 2 ^ s % 18446744073709551616 = (hi * 18446744073709551616 + lo) * 2 ^ s := by
  have h64 : (18446744073709551616 : Nat) = 2 ^ (64 - s) * 2 ^ s := by rw [← Nat.pow_add, Nat.sub_add_cancel (by omega)]
  have h1 : lo * 2 ^ s / 18446744073709551616 = lo / 2 ^ (64 - s) := by
    rw [h64]; exact Nat.mul_div_mul_right _ _ (Nat.pow_pos (by decide))
  have h2 := Nat.div_add_mod (lo * 2 ^ s) 18446744073709551616
  rw [h1] at h2
  rw [Nat.add_mul, Nat.add_mul, Nat.mul_right_comm hi]
  generalize hi * 18446744073709551616 * 2 ^ s = a at *
  rw [Nat.mul_comm] at h2
  omega
theorem whole (n y s Q rr : Nat) (hyp : 0 < y) (e1 : n * 2 ^ s = Q * (y * 2 ^ s) + rr) (hr : rr < y * 2 ^ s) : Q = n / y ∧ rr / 2 ^ s = n % y := by
  have hp : 0 < 2 ^ s := Nat.pow_pos (by decide)
  have hd : rr = (n - Q * y) * 2 ^ s := by
    rw [Nat.sub_mul, e1, Nat.mul_assoc]; omega
  have hle : Q * y ≤ n := by
    refine Nat.le_of_mul_le_mul_right ?_ hp
    rw [e1, Nat.mul_assoc]; omega
  have hlt : n - Q * y < y := by
    refine Nat.lt_of_mul_lt_mul_right (a := 2 ^ s) ?_
    rw [← hd]; exact hr
  have hn : n = (n - Q * y) + y * Q := by rw [Nat.mul_comm y Q]; omega
  refine ⟨?_, ?_⟩
  · rw [hn, Nat.add_mul_div_left _ _ hyp, Nat.div_eq_of_lt hlt]; omega
  · rw [hd, Nat.mul_div_cancel _ hp]
    conv => rhs; rw [hn]
    rw [Nat.add_mul_mod_self_left, Nat.mod_eq_of_lt hlt]
theorem sum2 (un un1 un0 y q1 q0 y1 y0 un21 : Nat) (hy : y = y1 * 4294967296 + y0) (h1 : Quo y1 y0 un un1 q1) (h21 : un21 = un * 4294967296 + un1 - q1 * y) (h0 : Quo y1 y0 un21 un0 q0) :
    un * 18446744073709551616 + (un1 * 4294967296 + un0) = (q1 * 4294967296 + q0) * y + (un21 * 4294967296 + un0 - q0 * y) ∧ un21 * 4294967296 + un0 - q0 * y < y := by
  have hr := h0.rest
  have hl1 := h1.lo
  have hl0 := h0.lo
  rw [← hy] at hr hl1 hl0
  refine ⟨?_, hr⟩
  rw [Nat.add_mul, Nat.mul_right_comm q1]
  generalize q1 * y = a at *
  generalize q0 * y = b at *
  clear h1 h0 hr hy
  omega
theorem less (hi lo y s un un10 : Nat) (h : hi < y) (hlo : lo < 18446744073709551616) (hm : un * 18446744073709551616 + un10 = (hi * 18446744073709551616 + lo) * 2 ^ s) : un < y * 2 ^ s := by
  have h1 : (hi * 18446744073709551616 + lo) * 2 ^ s < y * 18446744073709551616 * 2 ^ s := Nat.mul_lt_mul_of_pos_right (by omega) (Nat.pow_pos (by decide))
  rw [Nat.mul_right_comm] at h1
  omega
end Knu
end Go.Proofs.YtpbkmkclagikhaaDoor
