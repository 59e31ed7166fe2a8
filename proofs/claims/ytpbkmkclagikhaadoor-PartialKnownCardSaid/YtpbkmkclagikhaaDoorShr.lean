/- Shares of an amount, rounded down; the greatest part that there is enough for. Plain: no program in sight. -/
import Derived.IntWalk
namespace Go.Proofs.YtpbkmkclagikhaaDoor
set_option linter.unusedVariables false
namespace Prt

/-- What of a belongs to n of q. -/
def shr (q a n : Nat) : Nat := a * n / q
/-- What belongs to p behind d. -/
def mny (q a d p : Nat) : Nat := shr q a (d + p) - shr q a d
section
variable {q a n m d p r : Nat}
theorem shr_zero : shr q a 0 = 0 := by simp [shr]
theorem shr_all (hq : 0 < q) : shr q a q = a := Nat.mul_div_cancel _ hq
theorem shr_mono (h : n ≤ m) : shr q a n ≤ shr q a m := Nat.div_le_div_right (Nat.mul_le_mul_left _ h)
theorem shr_le (hq : 0 < q) (h : n ≤ q) : shr q a n ≤ a := by
  have := shr_mono (q := q) (a := a) h
  rwa [shr_all hq] at this
theorem mny_zero : mny q a d 0 = 0 := by simp [mny]
theorem mny_first : mny q a 0 p = shr q a p := by simp [mny, shr_zero]
theorem mny_add : shr q a d + mny q a d p = shr q a (d + p) := by
  have := shr_mono (q := q) (a := a) (Nat.le_add_right d p)
  unfold mny; omega
theorem mny_more : mny q a d (p + r) = mny q a d p + mny q a (d + p) r := by
  have h1 := mny_add (q := q) (a := a) (d := d) (p := p + r)
  have h2 := mny_add (q := q) (a := a) (d := d) (p := p)
  have h3 := mny_add (q := q) (a := a) (d := d + p) (p := r)
  rw [Nat.add_assoc] at h3
  omega
theorem mny_mono (h : p ≤ r) : mny q a d p ≤ mny q a d r := by
  have := shr_mono (q := q) (a := a) (Nat.add_le_add_left h d)
  unfold mny; omega
theorem mny_le (hq : 0 < q) (h : d + p ≤ q) : mny q a d p ≤ a := by
  have := shr_le (a := a) hq h
  unfold mny; omega
theorem mny_near (hq : 0 < q) : mny q a d p = shr q a p ∨ mny q a d p = shr q a p + 1 := by
  unfold mny shr
  rw [Nat.mul_add, Nat.add_div hq]
  generalize a * d / q = x
  generalize a * p / q = y
  split <;> omega
end

/-- How many lots there are at most. -/
def lots (q l d : Nat) (have_ : Int) : Nat := (min have_ ((q : Int) - d - 1)).toNat / l
/-- p is the greatest part of what is left that there is enough for. -/
def Best (q a l m d : Nat) (have_ cash : Int) (p : Nat) : Prop :=
  if ((q : Int) - d ≤ have_ ∧ (mny q a d (q - d) : Int) ≤ cash) then p = q - d
  else ∃ n, n ≤ lots q l d have_ ∧ (∀ i, i < n → (mny q a d ((i + 1) * l) : Int) ≤ cash) ∧ (n < lots q l d have_ → cash < (mny q a d ((n + 1) * l) : Int)) ∧ p = if m ≤ n * l then n * l else 0
section
variable {q a l m d p r : Nat} {have_ cash : Int}
theorem lots_mul (hl : 0 < l) : (lots q l d have_ * l : Nat) ≤ (min have_ ((q : Int) - d - 1)).toNat := Nat.div_mul_le_self _ _
theorem lots_le {n : Nat} (hl : 0 < l) (hd : d ≤ q) (h : n ≤ lots q l d have_) : n * l ≤ q - d := by
  have h1 := lots_mul (q := q) (d := d) (have_ := have_) hl
  have h2 := Nat.mul_le_mul_right l h
  omega
theorem lots_lt {n : Nat} (hl : 0 < l) (hd : d ≤ q) (h0 : 0 < n) (h : n ≤ lots q l d have_) : n * l < q - d ∧ ((n * l : Nat) : Int) ≤ have_ := by
  have h1 := lots_mul (q := q) (d := d) (have_ := have_) hl
  have h2 := Nat.mul_le_mul_right l h
  have h3 := Nat.mul_le_mul_right l h0
  omega
theorem Best.le (h : Best q a l m d have_ cash p) (hl : 0 < l) (hd : d ≤ q) : p ≤ q - d := by
  unfold Best at h
  split at h
  · omega
  · obtain ⟨n, h1, _, _, rfl⟩ := h
    have := lots_le hl hd h1
    split <;> omega
/-- What is taken is there. -/
theorem Best.there (h : Best q a l m d have_ cash p) (hl : 0 < l) (hd : d ≤ q) (h0 : 0 < p) : (p : Int) ≤ have_ ∧ (mny q a d p : Int) ≤ cash := by
  unfold Best at h
  split at h
  · rename_i hc
    subst h
    obtain ⟨h1, h2⟩ := hc
    exact ⟨by omega, h2⟩
  · obtain ⟨n, h1, h2, _, rfl⟩ := h
    split at h0
    · rename_i hm
      rw [if_pos hm]
      have hn : 0 < n := by
        rcases Nat.eq_zero_or_pos n with h | h
        · subst h; simp at h0
        · exact h
      refine ⟨(lots_lt hl hd hn h1).2, ?_⟩
      have := h2 (n - 1) (by omega)
      rwa [Nat.sub_add_cancel hn] at this
    · omega
/-- It is all that is left, or a whole number of lots, and those are enough. -/
theorem Best.whole (h : Best q a l m d have_ cash p) (h0 : 0 < p) : p = q - d ∨ (p % l = 0 ∧ m ≤ p) := by
  unfold Best at h
  split at h
  · exact .inl h
  · obtain ⟨n, _, _, _, rfl⟩ := h
    split at h0
    · rename_i hm
      rw [if_pos hm]
      exact .inr ⟨Nat.mul_mod_left _ _, hm⟩
    · omega
theorem Best.all (h : Best q a l m d have_ cash p) (h1 : (q : Int) - d ≤ have_) (h2 : (mny q a d (q - d) : Int) ≤ cash) : p = q - d := by
  unfold Best at h
  rwa [if_pos ⟨h1, h2⟩] at h
/-- There is but one. -/
theorem Best.one (h : Best q a l m d have_ cash p) (k : Best q a l m d have_ cash r) : p = r := by
  unfold Best at h k
  split at h
  · rename_i hc
    rw [if_pos hc] at k
    omega
  · rename_i hc
    rw [if_neg hc] at k
    obtain ⟨n, a1, a2, a3, rfl⟩ := h
    obtain ⟨n', b1, b2, b3, rfl⟩ := k
    have : n = n' := by
      rcases Nat.lt_trichotomy n n' with h | h | h
      · have := a3 (by omega)
        have := b2 n h
        omega
      · exact h
      · have := b3 (by omega)
        have := a2 n' h
        omega
    rw [this]
/-- With money enough it is what there is of lots. -/
theorem Best.rich (h : Best q a l m d have_ cash p) (hq : 0 < q) (hl : 0 < l) (hd : d ≤ q) (hc : (a : Int) ≤ cash) : p = if (q : Int) - d ≤ have_ then q - d else if m ≤ lots q l d have_ * l then lots q l d have_ * l else 0 := by
  have hm : ∀ r, d + r ≤ q → (mny q a d r : Int) ≤ cash := fun r hr => by have := mny_le (a := a) (d := d) (p := r) hq hr; omega
  unfold Best at h
  split at h
  · rename_i hh
    rw [if_pos hh.1]; exact h
  · rename_i hh
    rw [if_neg (fun h1 => hh ⟨h1, hm _ (by omega)⟩)]
    obtain ⟨n, a1, a2, a3, rfl⟩ := h
    have : n = lots q l d have_ := by
      rcases Nat.lt_or_ge n (lots q l d have_) with h | h
      · have h1 := a3 h
        have h2 := hm ((n + 1) * l) (by have := lots_le (n := n + 1) hl hd h; omega)
        omega
      · omega
    rw [this]
/-- No greater part could have been taken: not one lot more. -/
theorem Best.most (h : Best q a l m d have_ cash p) (hl : 0 < l) (hd : d ≤ q) (h1 : p + l < q - d) (h2 : m ≤ p + l) (h3 : ((p + l : Nat) : Int) ≤ have_) : cash < (mny q a d (p + l) : Int) := by
  unfold Best at h
  split at h
  · omega
  · obtain ⟨n, a1, a2, a3, rfl⟩ := h
    have key : ∀ k : Nat, k * l + l < q - d → ((k * l + l : Nat) : Int) ≤ have_ → k < lots q l d have_ := fun k hk1 hk2 => by
      unfold lots
      rw [Nat.lt_div_iff_mul_lt hl]
      omega
    split at h1
    · rename_i hm
      rw [if_pos hm] at h2 h3 ⊢
      have := a3 (key n h1 h3)
      rwa [Nat.add_mul, Nat.one_mul] at this
    · rename_i hm
      rw [if_neg hm] at h2 h3 ⊢
      have hn : n = 0 := by
        rcases Nat.eq_zero_or_pos n with h | h
        · exact h
        · have := Nat.mul_le_mul_right l h
          omega
      subst hn
      have := a3 (key 0 (by omega) (by simpa using h3))
      simpa using this
end
end Prt
end Go.Proofs.YtpbkmkclagikhaaDoor
