/- Calendar: business days counted, plain. -/
import Derived.Test.YtlnkdgjlbpldpaaDoorWeek
namespace Go.Proofs.YtlnkdgjlbpldpaaDoor
set_option linter.unusedVariables false
set_option linter.unusedSimpArgs false
namespace Cal

def isD (n : Int) : Prop := 1 ≤ n ∧ n ≤ 3652059
instance (n : Int) : Decidable (isD n) := by unfold isD; infer_instance
def cnt (B : Int → Bool) : Nat → Int
  | 0 => 0
  | k + 1 => cnt B k + (if B ((k : Int) + 1) then 1 else 0)
/-- How many business days there are from 1 up to and with n. -/
def FB (B : Int → Bool) (n : Int) : Int := cnt B n.toNat
def bit (b : Bool) : Int := if b then 1 else 0
theorem bit_cases (b : Bool) : bit b = 0 ∨ bit b = 1 := by cases b <;> simp [bit]
theorem FB_succ (B : Int → Bool) (n : Int) (h : 0 ≤ n) : FB B (n + 1) = FB B n + bit (B (n + 1)) := by
  obtain ⟨k, rfl⟩ := Int.eq_ofNat_of_zero_le h
  unfold FB
  have e1 : ((k : Int) + 1).toNat = k + 1 := by omega
  have e2 : ((k : Int)).toNat = k := by omega
  rw [e1, e2]
  rfl
theorem FB_zero (B : Int → Bool) : FB B 0 = 0 := rfl
theorem FB_pred (B : Int → Bool) (n : Int) (h : 1 ≤ n) : FB B n = FB B (n - 1) + bit (B n) := by
  have := FB_succ B (n - 1) (by omega)
  rw [show n - 1 + 1 = n from by omega] at this
  exact this
theorem FB_span (B : Int → Bool) (a : Int) (ha : 0 ≤ a) : ∀ k : Nat, FB B a ≤ FB B (a + k) ∧ FB B (a + k) ≤ FB B a + k
  | 0 => by simp
  | k + 1 => by
    have ih := FB_span B a ha k
    have hs := FB_succ B (a + k) (by omega)
    have hb := bit_cases (B (a + k + 1))
    have e : a + ((k + 1 : Nat) : Int) = a + k + 1 := by omega
    rw [e, hs]
    omega
theorem FB_le (B : Int → Bool) {a b : Int} (ha : 0 ≤ a) (h : a ≤ b) : FB B a ≤ FB B b ∧ FB B b ≤ FB B a + (b - a) := by
  have := FB_span B a ha (b - a).toNat
  have e : a + ((b - a).toNat : Int) = b := by omega
  rw [e] at this
  omega
theorem FB_nn (B : Int → Bool) {a : Int} (ha : 0 ≤ a) : 0 ≤ FB B a := by
  have := (FB_le B (Int.le_refl 0) ha).1
  rw [FB_zero] at this
  exact this
/-- A business day is told by its count. -/
theorem FB_inj (B : Int → Bool) {x y : Int} (hx : 1 ≤ x) (hy : 1 ≤ y) (bx : B x = true) (by_ : B y = true) (h : FB B x = FB B y) : x = y := by
  have key : ∀ {x y : Int}, 1 ≤ x → B y = true → FB B x = FB B y → ¬ x < y := fun {x y} hx hy h hl => by
    have h1 := FB_pred B y (by omega)
    have h2 := (FB_le B (a := x) (b := y - 1) (by omega) (by omega)).1
    rw [hy] at h1
    simp only [bit] at h1
    simp at h1
    omega
  have k1 := key hx by_ h
  have k2 := key hy bx h.symm
  omega
/-- Behind a stretch without business days the count is the same. -/
theorem FB_flat (B : Int → Bool) (a : Int) (ha : 0 ≤ a) : ∀ k : Nat, (∀ j : Nat, j < k → B (a + 1 + j) = false) → FB B (a + k) = FB B a
  | 0, _ => by simp
  | k + 1, h => by
    have ih := FB_flat B a ha k (fun j hj => h j (by omega))
    have hs := FB_succ B (a + k) (by omega)
    have hb := h k (by omega)
    have e : a + ((k + 1 : Nat) : Int) = a + k + 1 := by omega
    rw [e, hs, show a + (k : Int) + 1 = a + 1 + k from by omega, hb, ih]
    simp [bit]
/-- The first business day from n on, by steps s: m. -/
def NextR (B : Int → Bool) (s n m : Int) : Prop := ∃ k : Nat, m = n + s * k ∧ (∀ j : Nat, j < k → isD (n + s * j) ∧ B (n + s * j) = false) ∧ (isD m → B m = true)
theorem NextR.up {B : Int → Bool} {n m : Int} (h : NextR B 1 n m) (hn : 1 ≤ n) (hn2 : n ≤ 3652060) : n ≤ m ∧ m ≤ 3652060 ∧ FB B (m - 1) = FB B (n - 1) ∧ (∀ i, n ≤ i → i < m → B i = false) := by
  obtain ⟨k, hm, hk, he⟩ := h
  rw [Int.one_mul] at hm
  have h1 : ∀ j : Nat, j < k → isD (n + j) ∧ B (n + j) = false := fun j hj => by have := hk j hj; rwa [Int.one_mul] at this
  refine ⟨by omega, ?_, ?_, ?_⟩
  · by_cases h0 : k = 0
    · omega
    · have := (h1 (k - 1) (by omega)).1.2
      omega
  · have := FB_flat B (n - 1) (by omega) k (fun j hj => by rw [show n - 1 + 1 + (j : Int) = n + j from by omega]; exact (h1 j hj).2)
    rw [← this]
    congr 1
    omega
  · intro i hi hi2
    have := (h1 (i - n).toNat (by omega)).2
    rwa [show n + ((i - n).toNat : Int) = i from by omega] at this
theorem NextR.down {B : Int → Bool} {n m : Int} (h : NextR B (-1) n m) (hn : 0 ≤ n) (hn2 : n ≤ 3652059) : m ≤ n ∧ 0 ≤ m ∧ FB B m = FB B n ∧ (∀ i, m < i → i ≤ n → B i = false) := by
  obtain ⟨k, hm, hk, he⟩ := h
  have h1 : ∀ j : Nat, j < k → isD (n - j) ∧ B (n - j) = false := fun j hj => by have := hk j hj; rwa [show n + -1 * (j : Int) = n - j from by omega] at this
  have hm0 : 0 ≤ m := by
    by_cases h0 : k = 0
    · omega
    · have := (h1 (k - 1) (by omega)).1.1
      omega
  refine ⟨by omega, hm0, ?_, ?_⟩
  · have := FB_flat B m hm0 k (fun j hj => by
      have := (h1 (k - 1 - j) (by omega)).2
      rwa [show n - ((k - 1 - j : Nat) : Int) = m + 1 + j from by omega] at this)
    rw [← this]
    congr 1
    omega
  · intro i hi hi2
    have := (h1 (n - i).toNat (by omega)).2
    rwa [show n - ((n - i).toNat : Int) = i from by omega] at this
/-- What Add answers: the day x, or none. -/
structure AddR (B : Int → Bool) (n k : Int) (x : Option Int) : Prop where
  yes : ∀ y, x = some y → isD y ∧ (k = 0 → y = n) ∧ (0 < k → B y = true ∧ FB B y = FB B n + k) ∧ (k < 0 → B y = true ∧ FB B (y - 1) = FB B (n - 1) + k)
  no : x = none → ¬ isD n ∨ (0 < k ∧ FB B 3652059 < FB B n + k) ∨ (k < 0 ∧ FB B (n - 1) + k < 0)
end Cal
end Go.Proofs.YtlnkdgjlbpldpaaDoor
