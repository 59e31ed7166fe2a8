/-
  The forms of numbers, as lists: plain Lean.
-/
import Derived.Lib.BitFns
namespace Go.Proofs.Ythkhemcbkcoliaa
set_option linter.unusedVariables false
namespace Wire
/-- A uint64 (the great numeral behind a name). -/
def U64 (x : Nat) : Prop := x < 18446744073709551616

def hi (x : Nat) : Nat → List Int
  | 0 => []
  | n + 1 => (((x / 256 ^ n) % 256 : Nat) : Int) :: hi x n
theorem hi_length (x n : Nat) : (hi x n).length = n := by induction n with | zero => rfl | succ n ih => simp [hi, ih]
/-- The form of a number. -/
def size (x : Nat) : Nat := (Lib.bitLen x + 7) / 8
def form (x : Nat) : List Int := if x < 248 then [(x : Int)] else ((247 + size x : Nat) : Int) :: hi x (size x)
theorem bitLen_le (x : Nat) (hx : U64 x) : Lib.bitLen x ≤ 64 := Lib.bitLen_le x 64 (Nat.le_refl _) hx
theorem size_le (x : Nat) (hx : U64 x) : size x ≤ 8 := by have := bitLen_le x hx; unfold size; omega
theorem form_length (x : Nat) (hx : U64 x) : (form x).length ≤ 9 := by
  have := size_le x hx
  unfold form; split <;> simp [hi_length]; omega
theorem form_pos (x : Nat) : 0 < (form x).length := by unfold form; split <;> simp

theorem aux_spec : ∀ (f x : Nat), x < 2 ^ f → x < 2 ^ Lib.bitLenAux f x ∧ (x ≠ 0 → 2 ^ Lib.bitLenAux f x ≤ 2 * x)
  | 0, x, h => by simp [Lib.bitLenAux] at *; omega
  | f + 1, x, h => by
    unfold Lib.bitLenAux
    split
    · subst_vars; simp
    · rename_i h0
      obtain ⟨h1, h2⟩ := aux_spec f (x / 2) (by rw [Nat.pow_succ] at h; omega)
      rw [Nat.add_comm 1, Nat.pow_succ]
      refine ⟨by omega, fun _ => ?_⟩
      by_cases hx : x / 2 = 0
      · have : x = 1 := by omega
        subst this
        have : Lib.bitLenAux f 0 = 0 := by cases f <;> simp [Lib.bitLenAux]
        simp [this]
      · have := h2 hx; omega
theorem size_spec (x : Nat) (hx : U64 x) : x < 256 ^ size x ∧ (x ≠ 0 → 1 ≤ size x ∧ 256 ^ (size x - 1) ≤ x) := by
  obtain ⟨h1, h2⟩ := aux_spec 64 x hx
  have e : ∀ n, 256 ^ n = 2 ^ (8 * n) := fun n => by rw [Nat.pow_mul]
  refine ⟨Nat.lt_of_lt_of_le h1 (by rw [e]; exact Nat.pow_le_pow_right (by omega) (by unfold size Lib.bitLen; omega)), fun h0 => ?_⟩
  have h3 := h2 h0
  have hb : 1 ≤ Lib.bitLen x := by
    rcases Nat.eq_zero_or_pos (Lib.bitLen x) with h | h
    · unfold Lib.bitLen at h; rw [h] at h1; simp at h1; omega
    · exact h
  refine ⟨by unfold size; omega, ?_⟩
  rw [e]
  have h4 : 2 ^ (8 * (size x - 1)) ≤ 2 ^ (Lib.bitLen x - 1) := Nat.pow_le_pow_right (by omega) (by unfold size; omega)
  have h5 : 2 ^ (Lib.bitLen x) = 2 ^ (Lib.bitLen x - 1) * 2 := by rw [← Nat.pow_succ]; congr 1; omega
  have h6 : 2 ^ Lib.bitLen x ≤ 2 * x := h3
  omega

/-- Two lists part at place d, and in this sense. -/
def Part (A B : List Int) (d : Nat) (P : Prop) : Prop := d < A.length ∧ d < B.length ∧ (∀ j, j < d → A.getD j 0 = B.getD j 0) ∧ A.getD d 0 ≠ B.getD d 0 ∧ (A.getD d 0 < B.getD d 0 ↔ P)
theorem Part.cons {A B : List Int} {d : Nat} {P : Prop} (c : Int) (h : Part A B d P) : Part (c :: A) (c :: B) (d + 1) P := by
  obtain ⟨h1, h2, h3, h4, h5⟩ := h
  refine ⟨by simpa using h1, by simpa using h2, fun j hj => ?_, by simpa using h4, by simpa using h5⟩
  cases j with
  | zero => rfl
  | succ j => simpa using h3 j (by omega)
theorem Part.head {A B : List Int} {P : Prop} {a b : Int} (h : a ≠ b) (hp : a < b ↔ P) : Part (a :: A) (b :: B) 0 P :=
  ⟨by simp, by simp, fun j hj => by omega, by simpa using h, by simpa using hp⟩
theorem Part.iff {A B : List Int} {d : Nat} {P Q : Prop} (h : Part A B d P) (hp : P ↔ Q) : Part A B d Q := ⟨h.1, h.2.1, h.2.2.1, h.2.2.2.1, h.2.2.2.2.trans hp⟩
theorem hi_part (x y : Nat) : ∀ n, x % 256 ^ n ≠ y % 256 ^ n → ∃ d, Part (hi x n) (hi y n) d (x % 256 ^ n < y % 256 ^ n)
  | 0, h => by simp [Nat.mod_one] at h
  | n + 1, h => by
    have ex : x % 256 ^ (n + 1) = (x / 256 ^ n % 256) * 256 ^ n + x % 256 ^ n := by
      rw [Nat.pow_succ, Nat.mod_mul, Nat.mul_comm, Nat.add_comm]
    have ey : y % 256 ^ (n + 1) = (y / 256 ^ n % 256) * 256 ^ n + y % 256 ^ n := by
      rw [Nat.pow_succ, Nat.mod_mul, Nat.mul_comm, Nat.add_comm]
    have hp : 0 < 256 ^ n := Nat.pow_pos (by omega)
    have hx := Nat.mod_lt x hp
    have hy := Nat.mod_lt y hp
    by_cases e : x / 256 ^ n % 256 = y / 256 ^ n % 256
    · obtain ⟨d, hd⟩ := hi_part x y n (fun e' => h (by rw [ex, ey, e, e']))
      refine ⟨d + 1, ?_⟩
      unfold hi
      rw [e]
      refine (hd.cons _).iff ?_
      rw [ex, ey, e]; omega
    · refine ⟨0, ?_⟩
      unfold hi
      refine Part.head (by omega) ?_
      rw [ex, ey]
      generalize x / 256 ^ n % 256 = a at *
      generalize y / 256 ^ n % 256 = b at *
      generalize 256 ^ n = m at *
      constructor
      · intro hlt
        have h2 : a + 1 ≤ b := by omega
        have := Nat.mul_le_mul_right m h2
        rw [Nat.add_mul] at this
        omega
      · intro hlt
        rcases Nat.lt_or_ge a b with h3 | h3
        · omega
        · have h2 : b + 1 ≤ a := by omega
          have := Nat.mul_le_mul_right m h2
          rw [Nat.add_mul] at this
          omega
theorem form_part (x y : Nat) (hx : U64 x) (hy : U64 y) (h : x ≠ y) : ∃ d, Part (form x) (form y) d (x < y) := by
  obtain ⟨x1, x2⟩ := size_spec x hx
  obtain ⟨y1, y2⟩ := size_spec y hy
  unfold form
  by_cases hx8 : x < 248 <;> by_cases hy8 : y < 248 <;> simp only [hx8, hy8, if_true, if_false]
  · exact ⟨0, Part.head (by omega) (by omega)⟩
  · obtain ⟨hs, _⟩ := y2 (by omega)
    exact ⟨0, Part.head (by omega) (by omega)⟩
  · obtain ⟨hs, _⟩ := x2 (by omega)
    exact ⟨0, Part.head (by omega) (by omega)⟩
  · obtain ⟨hs, x3⟩ := x2 (by omega)
    obtain ⟨ht, y3⟩ := y2 (by omega)
    by_cases e : size x = size y
    · rw [e] at x1 ⊢
      obtain ⟨d, hd⟩ := hi_part x y (size y) (by rw [Nat.mod_eq_of_lt x1, Nat.mod_eq_of_lt y1]; exact h)
      rw [Nat.mod_eq_of_lt x1, Nat.mod_eq_of_lt y1] at hd
      exact ⟨d + 1, hd.cons _⟩
    · refine ⟨0, Part.head (by omega) ?_⟩
      rcases Nat.lt_or_ge (size x) (size y) with hlt | hge
      · have : 256 ^ size x ≤ 256 ^ (size y - 1) := Nat.pow_le_pow_right (by omega) (by omega)
        omega
      · have : 256 ^ size y ≤ 256 ^ (size x - 1) := Nat.pow_le_pow_right (by omega) (by omega)
        omega
end Wire
end Go.Proofs.Ythkhemcbkcoliaa
