/-
  The forms of numbers, as lists: plain Lean.
-/
import Derived.Lib.BitFns
namespace Go.Proofs.Ytihgmlcmdpmhhaa
set_option linter.unusedVariables false
namespace Wire
/-- A uint64 (the great numeral behind a name). -/
def U64 (x : Nat) : Prop := x < 18446744073709551616

/-- An int64 (the great numerals behind a name). -/
def I64 (x : Int) : Prop := -9223372036854775808 ≤ x ∧ x ≤ 9223372036854775807

def hi (x : Nat) : Nat → List Int
  | 0 => []
  | n + 1 => (((x / 256 ^ n) % 256 : Nat) : Int) :: hi x n
theorem hi_length (x n : Nat) : (hi x n).length = n := by induction n with | zero => rfl | succ n ih => simp [hi, ih]
/-- The form of a number. -/
def size (x : Nat) : Nat := (Lib.bitLen x + 7) / 8
def form (x : Nat) : List Int := if x < 248 then [(x : Int)] else ((247 + size x : Nat) : Int) :: hi x (size x)
theorem bitLen_le (x : Nat) (hx : U64 x) : Lib.bitLen x ≤ 64 := Lib.bitLen_le x 64 (Nat.le_refl _) hx
theorem size_le (x : Nat) (hx : U64 x) : size x ≤ 8 := by have := bitLen_le x hx; unfold size; omega
theorem form_length (x : Nat) (hx : U64 x) : (form x).length ≤ 9 := by
  have := size_le x hx
  unfold form; split <;> simp [hi_length]; omega
theorem form_pos (x : Nat) : 0 < (form x).length := by unfold form; split <;> simp

theorem aux_spec : ∀ (f x : Nat), x < 2 ^ f → x < 2 ^ Lib.bitLenAux f x ∧ (x ≠ 0 → 2 ^ Lib.bitLenAux f x ≤ 2 * x)
  | 0, x, h => by simp [Lib.bitLenAux] at *; omega
  | f + 1, x, h => by
    unfold Lib.bitLenAux
    split
    · subst_vars; simp
    · rename_i h0
      obtain ⟨h1, h2⟩ := aux_spec f (x / 2) (by rw [Nat.pow_succ] at h; omega)
      rw [Nat.add_comm 1, Nat.pow_succ]
      refine ⟨by omega, fun _ => ?_⟩
      by_cases hx : x / 2 = 0
      · have : x = 1 := by omega
        subst this
        have : Lib.bitLenAux f 0 = 0 := by cases f <;> simp [Lib.bitLenAux]
        simp [this]
      · have := h2 hx; omega
theorem size_spec (x : Nat) (hx : U64 x) : x < 256 ^ size x ∧ (x ≠ 0 → 1 ≤ size x ∧ 256 ^ (size x - 1) ≤ x) := by
  obtain ⟨h1, h2⟩ := aux_spec 64 x hx
  have e : ∀ n, 256 ^ n = 2 ^ (8 * n) := fun n => by rw [Nat.pow_mul]
  refine ⟨Nat.lt_of_lt_of_le h1 (by rw [e]; exact Nat.pow_le_pow_right (by omega) (by unfold size Lib.bitLen; omega)), fun h0 => ?_⟩
  have h3 := h2 h0
  have hb : 1 ≤ Lib.bitLen x := by
    rcases Nat.eq_zero_or_pos (Lib.bitLen x) with h | h
    · unfold Lib.bitLen at h; rw [h] at h1; simp at h1; omega
    · exact h
  refine ⟨by unfold size; omega, ?_⟩
  rw [e]
  have h4 : 2 ^ (8 * (size x - 1)) ≤ 2 ^ (Lib.bitLen x - 1) := Nat.pow_le_pow_right (by omega) (by unfold size; omega)
  have h5 : 2 ^ (Lib.bitLen x) = 2 ^ (Lib.bitLen x - 1) * 2 := by rw [← Nat.pow_succ]; congr 1; omega
  have h6 : 2 ^ Lib.bitLen x ≤ 2 * x := h3
  omega

/-- Two lists part at place d, and in this sense. -/
def Part (A B : List Int) (d : Nat) (P : Prop) : Prop := d < A.length ∧ d < B.length ∧ (∀ j, j < d → A.getD j 0 = B.getD j 0) ∧ A.getD d 0 ≠ B.getD d 0 ∧ (A.getD d 0 < B.getD d 0 ↔ P)
theorem Part.cons {A B : List Int} {d : Nat} {P : Prop} (c : Int) (h : Part A B d P) : Part (c :: A) (c :: B) (d + 1) P := by
  obtain ⟨h1, h2, h3, h4, h5⟩ := h
  refine ⟨by simpa using h1, by simpa using h2, fun j hj => ?_, by simpa using h4, by simpa using h5⟩
  cases j with
  | zero => rfl
  | succ j => simpa using h3 j (by omega)
theorem Part.head {A B : List Int} {P : Prop} {a b : Int} (h : a ≠ b) (hp : a < b ↔ P) : Part (a :: A) (b :: B) 0 P :=
  ⟨by simp, by simp, fun j hj => by omega, by simpa using h, by simpa using hp⟩
theorem Part.iff {A B : List Int} {d : Nat} {P Q : Prop} (h : Part A B d P) (hp : P ↔ Q) : Part A B d Q := ⟨h.1, h.2.1, h.2.2.1, h.2.2.2.1, h.2.2.2.2.trans hp⟩
theorem hi_part (x y : Nat) : ∀ n, x % 256 ^ n ≠ y % 256 ^ n → ∃ d, Part (hi x n) (hi y n) d (x % 256 ^ n < y % 256 ^ n)
  | 0, h => by simp [Nat.mod_one] at h
  | n + 1, h => by
    have ex : x % 256 ^ (n + 1) = (x / 256 ^ n % 256) * 256 ^ n + x % 256 ^ n := by
      rw [Nat.pow_succ, Nat.mod_mul, Nat.mul_comm, Nat.add_comm]
    have ey : y % 256 ^ (n + 1) = (y / 256 ^ n % 256) * 256 ^ n + y % 256 ^ n := by
      rw [Nat.pow_succ, Nat.mod_mul, Nat.mul_comm, Nat.add_comm]
    have hp : 0 < 256 ^ n := Nat.pow_pos (by omega)
    have hx := Nat.mod_lt x hp
    have hy := Nat.mod_lt y hp
    by_cases e : x / 256 ^ n % 256 = y / 256 ^ n % 256
    · obtain ⟨d, hd⟩ := hi_part x y n (fun e' => h (by rw [ex, ey, e, e']))
      refine ⟨d + 1, ?_⟩
      unfold hi
      rw [e]
      refine (hd.cons _).iff ?_
      rw [ex, ey, e]; omega
    · refine ⟨0, ?_⟩
      unfold hi
      refine Part.head (by omega) ?_
      rw [ex, ey]
      generalize x / 256 ^ n % 256 = a at *
      generalize y / 256 ^ n % 256 = b at *
      generalize 256 ^ n = m at *
      constructor
      · intro hlt
        have h2 : a + 1 ≤ b := by omega
        have := Nat.mul_le_mul_right m h2
        rw [Nat.add_mul] at this
        omega
      · intro hlt
        rcases Nat.lt_or_ge a b with h3 | h3
        · omega
        · have h2 : b + 1 ≤ a := by omega
          have := Nat.mul_le_mul_right m h2
          rw [Nat.add_mul] at this
          omega
theorem form_part (x y : Nat) (hx : U64 x) (hy : U64 y) (h : x ≠ y) : ∃ d, Part (form x) (form y) d (x < y) := by
  obtain ⟨x1, x2⟩ := size_spec x hx
  obtain ⟨y1, y2⟩ := size_spec y hy
  unfold form
  by_cases hx8 : x < 248 <;> by_cases hy8 : y < 248 <;> simp only [hx8, hy8, if_true, if_false]
  · exact ⟨0, Part.head (by omega) (by omega)⟩
  · obtain ⟨hs, _⟩ := y2 (by omega)
    exact ⟨0, Part.head (by omega) (by omega)⟩
  · obtain ⟨hs, _⟩ := x2 (by omega)
    exact ⟨0, Part.head (by omega) (by omega)⟩
  · obtain ⟨hs, x3⟩ := x2 (by omega)
    obtain ⟨ht, y3⟩ := y2 (by omega)
    by_cases e : size x = size y
    · rw [e] at x1 ⊢
      obtain ⟨d, hd⟩ := hi_part x y (size y) (by rw [Nat.mod_eq_of_lt x1, Nat.mod_eq_of_lt y1]; exact h)
      rw [Nat.mod_eq_of_lt x1, Nat.mod_eq_of_lt y1] at hd
      exact ⟨d + 1, hd.cons _⟩
    · refine ⟨0, Part.head (by omega) ?_⟩
      rcases Nat.lt_or_ge (size x) (size y) with hlt | hge
      · have : 256 ^ size x ≤ 256 ^ (size y - 1) := Nat.pow_le_pow_right (by omega) (by omega)
        omega
      · have : 256 ^ size y ≤ 256 ^ (size x - 1) := Nat.pow_le_pow_right (by omega) (by omega)
        omega

/-! Reading a number. -/
inductive Er where
  | ok
  | no (n : Int)
  | ref (s : ByteArray) (n : Int)
def Byt (l : List Int) : Prop := ∀ c, c ∈ l → 0 ≤ c ∧ c ≤ 255
theorem Byt.tail {c : Int} {l : List Int} (h : Byt (c :: l)) : Byt l := fun d hd => h d (List.mem_cons_of_mem _ hd)
theorem Byt.head {c : Int} {l : List Int} (h : Byt (c :: l)) : 0 ≤ c ∧ c ≤ 255 := h c (List.mem_cons_self ..)
theorem Byt.take {l : List Int} (h : Byt l) (n : Nat) : Byt (l.take n) := fun c hc => h c (List.mem_of_mem_take hc)
theorem Byt.drop {l : List Int} (h : Byt l) (n : Nat) : Byt (l.drop n) := fun c hc => h c (List.mem_of_mem_drop hc)
theorem Byt.append {l m : List Int} (h : Byt l) (k : Byt m) : Byt (l ++ m) := fun c hc => (List.mem_append.1 hc).elim (h c) (k c)
theorem Byt.getD {l : List Int} (h : Byt l) (i : Nat) : 0 ≤ l.getD i 0 ∧ l.getD i 0 ≤ 255 := by
  rw [List.getD_eq_getElem?_getD]
  rcases Nat.lt_or_ge i l.length with hi | hi
  · rw [List.getElem?_eq_getElem hi]; exact h _ (List.getElem_mem hi)
  · rw [List.getElem?_eq_none hi]; simp
theorem Byt.hi (x : Nat) : ∀ n, Byt (hi x n)
  | 0 => fun c hc => by cases hc
  | n + 1 => fun c hc => by
    rcases List.mem_cons.1 hc with rfl | hc
    · omega
    · exact Byt.hi x n c hc
theorem Byt.form (x : Nat) (hx : U64 x) : Byt (form x) := by
  unfold Wire.form
  split
  · intro c hc
    obtain rfl : c = x := by simpa using hc
    omega
  · intro c hc
    rcases List.mem_cons.1 hc with rfl | hc
    · have := size_le x hx; omega
    · exact Byt.hi x _ c hc
def lowF (a : Nat) (l : List Int) : Nat := l.foldl (fun a c => a * 256 + c.toNat) a
def low (l : List Int) : Nat := lowF 0 l
theorem lowF_eq (l : List Int) : ∀ a, lowF a l = a * 256 ^ l.length + low l := by
  induction l with
  | nil => intro a; simp [lowF, low]
  | cons c l ih =>
    intro a
    have e1 : lowF a (c :: l) = lowF (a * 256 + c.toNat) l := rfl
    have e2 : low (c :: l) = lowF (0 * 256 + c.toNat) l := rfl
    rw [e1, e2, ih, ih (0 * 256 + c.toNat), List.length_cons, Nat.pow_succ]
    simp only [Nat.add_mul, Nat.zero_mul, Nat.zero_add, Nat.mul_assoc, Nat.mul_comm 256, Nat.add_assoc]
theorem low_cons (c : Int) (l : List Int) : low (c :: l) = c.toNat * 256 ^ l.length + low l := by
  have : low (c :: l) = lowF (0 * 256 + c.toNat) l := rfl
  rw [this, lowF_eq]; simp
theorem low_snoc (c : Int) (l : List Int) : low (l ++ [c]) = low l * 256 + c.toNat := by simp [low, lowF]
theorem low_lt (l : List Int) (h : Byt l) : low l < 256 ^ l.length := by
  induction l with
  | nil => simp [low, lowF]
  | cons c l ih =>
    have h1 := ih h.tail
    have h2 := h.head
    rw [low_cons, List.length_cons, Nat.pow_succ]
    generalize 256 ^ l.length = m at *
    have : c.toNat * m ≤ 255 * m := Nat.mul_le_mul_right m (by omega)
    omega
theorem low_hi (x : Nat) : ∀ n, low (hi x n) = x % 256 ^ n
  | 0 => by simp [hi, low, lowF, Nat.mod_one]
  | n + 1 => by
    rw [hi, low_cons, low_hi x n, hi_length, Nat.pow_succ, Nat.mod_mul, Nat.mul_comm, Nat.add_comm, Int.toNat_natCast]
theorem hi_low (l : List Int) (h : Byt l) : hi (low l) l.length = l := by
  induction l with
  | nil => rfl
  | cons c l ih =>
    have h1 := low_lt l h.tail
    have h2 := h.head
    have hp : 0 < 256 ^ l.length := Nat.pow_pos (by omega)
    rw [List.length_cons, hi]
    have e : ∀ y : Nat, hi (c.toNat * 256 ^ l.length + y) l.length = hi y l.length := by
      intro y
      have key : ∀ n (a b : Nat), a % 256 ^ n = b % 256 ^ n → hi a n = hi b n := by
        intro n
        induction n with
        | zero => intros; rfl
        | succ n ihn =>
          intro a b hab
          rw [Nat.pow_succ, Nat.mod_mul, Nat.mod_mul] at hab
          have hpn : 0 < 256 ^ n := Nat.pow_pos (by omega)
          have m1 := Nat.mod_lt a hpn
          have m2 := Nat.mod_lt b hpn
          have h0 : a % 256 ^ n = b % 256 ^ n := by
            have := congrArg (· % 256 ^ n) hab
            simpa [Nat.add_mul_mod_self_left] using this
          have h3 : a / 256 ^ n % 256 = b / 256 ^ n % 256 := by
            rw [h0] at hab
            exact Nat.eq_of_mul_eq_mul_left hpn (Nat.add_left_cancel hab)
          rw [hi, hi, h3, ihn a b h0]
      exact key _ _ _ (by rw [Nat.add_comm, Nat.add_mul_mod_self_right])
    rw [low_cons, e, ih h.tail]
    congr 1
    rw [Nat.add_comm, Nat.add_mul_div_right _ _ hp, Nat.div_eq_of_lt h1]
    omega
def wANumber : ByteArray := ⟨#[97, 32, 110, 117, 109, 98, 101, 114]⟩
/-- The number with whose form a list begins. -/
def num : List Int → Nat × Nat × Er
  | [] => (0, 0, .no 2)
  | c :: l =>
    if c < 248 then (c.toNat, 1, .ok)
    else if l.length < (c - 247).toNat then (0, 0, .no 2)
    else if low (l.take (c - 247).toNat) < 248 ∨ Lib.bitLen (low (l.take (c - 247).toNat)) ≤ 8 * ((c - 247).toNat - 1) then (0, 0, .ref wANumber 4)
    else (low (l.take (c - 247).toNat), (c - 247).toNat + 1, .ok)
theorem num_cons (c : Int) (l : List Int) : num (c :: l) = if c < 248 then (c.toNat, 1, .ok)
    else if l.length < (c - 247).toNat then (0, 0, .no 2)
    else if low (l.take (c - 247).toNat) < 248 ∨ Lib.bitLen (low (l.take (c - 247).toNat)) ≤ 8 * ((c - 247).toNat - 1) then (0, 0, .ref wANumber 4)
    else (low (l.take (c - 247).toNat), (c - 247).toNat + 1, .ok) := rfl
theorem size_eq (x n : Nat) (hx : U64 x) (h1 : 256 ^ (n - 1) ≤ x) (h2 : x < 256 ^ n) (hn : 1 ≤ n) : size x = n := by
  obtain ⟨s1, s2⟩ := size_spec x hx
  have h0 : x ≠ 0 := by have : 0 < 256 ^ (n - 1) := Nat.pow_pos (by omega); omega
  obtain ⟨s3, s4⟩ := s2 h0
  rcases Nat.lt_trichotomy (size x) n with h | h | h
  · have : 256 ^ size x ≤ 256 ^ (n - 1) := Nat.pow_le_pow_right (by omega) (by omega)
    omega
  · exact h
  · have : 256 ^ n ≤ 256 ^ (size x - 1) := Nat.pow_le_pow_right (by omega) (by omega)
    omega
theorem bitLen_ge (x n : Nat) (hx : U64 x) : ¬ Lib.bitLen x ≤ n ↔ 2 ^ n ≤ x := by
  obtain ⟨h1, h2⟩ := aux_spec 64 x hx
  constructor
  · intro h
    have h0 : x ≠ 0 := by
      rintro rfl
      have : Lib.bitLen 0 = 0 := by decide
      omega
    have h3 := h2 h0
    have h4 : 2 ^ (n + 1) ≤ 2 ^ Lib.bitLenAux 64 x := Nat.pow_le_pow_right (by omega) (by unfold Lib.bitLen at h; omega)
    rw [Nat.pow_succ] at h4
    omega
  · intro h h5
    have : 2 ^ Lib.bitLenAux 64 x ≤ 2 ^ n := Nat.pow_le_pow_right (by omega) h5
    omega
/-- A form is read as its number. -/
theorem num_form (x : Nat) (hx : U64 x) (l : List Int) : num (form x ++ l) = (x, (form x).length, .ok) := by
  unfold form
  split
  · rename_i h
    have : ((x : Int) < 248) := by omega
    simp [num, this]
  · rename_i h
    obtain ⟨s1, s2⟩ := size_spec x hx
    obtain ⟨s3, s4⟩ := s2 (by omega)
    have hs := size_le x hx
    have e : (((247 + size x : Nat) : Int) - 247).toNat = size x := by omega
    have e2 : (hi x (size x) ++ l).take (size x) = hi x (size x) := by rw [List.take_append_of_le_length (by rw [hi_length]; omega), List.take_of_length_le (by rw [hi_length]; omega)]
    have e3 : low (hi x (size x)) = x := by rw [low_hi, Nat.mod_eq_of_lt s1]
    have e4 : ¬ Lib.bitLen x ≤ 8 * (size x - 1) := by
      rw [bitLen_ge x _ hx, Nat.pow_mul]; exact s4
    rw [List.cons_append, num, e, e2, e3, if_neg (by omega), if_neg (by simp [hi_length]), if_neg (by omega)]
    simp [hi_length]
/-- What is read as a number is its form. -/
theorem form_num (l : List Int) (h : Byt l) (x n : Nat) (hn : num l = (x, n, .ok)) : U64 x ∧ l.take n = form x ∧ n = (form x).length ∧ n ≤ l.length := by
  cases l with
  | nil => simp [num] at hn
  | cons c l =>
    have hc := h.head
    rw [num_cons] at hn
    split at hn
    · rename_i h8
      simp only [Prod.mk.injEq] at hn
      obtain ⟨rfl, rfl, _⟩ := hn
      refine ⟨by unfold U64; omega, ?_, ?_, by simp⟩
      · unfold form
        rw [if_pos (by omega)]
        simp; omega
      · unfold form
        rw [if_pos (by omega)]
        rfl
    · rename_i h8
      split at hn
      · simp at hn
      · rename_i hl
        split at hn
        · simp at hn
        · rename_i hf
          simp only [Prod.mk.injEq] at hn
          obtain ⟨hx, rfl, _⟩ := hn
          have hm : (c - 247).toNat ≤ 8 := by omega
          generalize hmm : (c - 247).toNat = m at *
          have hlen : (l.take m).length = m := by rw [List.length_take]; omega
          have hlt := low_lt _ (h.tail.take m)
          rw [hx, hlen] at hlt
          rw [hx] at hf
          have hU : U64 x := by
            have : 256 ^ m ≤ 256 ^ 8 := Nat.pow_le_pow_right (by omega) hm
            unfold U64
            have e : (256 : Nat) ^ 8 = 18446744073709551616 := by decide
            omega
          have hge : 2 ^ (8 * (m - 1)) ≤ x := (bitLen_ge x _ hU).1 (by omega)
          rw [Nat.pow_mul] at hge
          have hs : size x = m := size_eq x m hU hge hlt (by omega)
          refine ⟨hU, ?_, ?_, ?_⟩
          · unfold form
            rw [if_neg (by omega), hs, List.take_succ_cons]
            congr 1
            · omega
            · have := hi_low _ (h.tail.take m)
              rw [hlen, hx] at this
              exact this.symm
          · unfold form
            rw [if_neg (by omega), hs]
            simp [hi_length]
          · simp; omega
/-- Where a number is none, nothing is taken. -/
theorem num_bad (l : List Int) : (num l).2.2 ≠ .ok → (num l).1 = 0 ∧ (num l).2.1 = 0 := by
  cases l with
  | nil => simp [num]
  | cons c l =>
    rw [num_cons]
    (repeat' split) <;> simp
theorem num_le (l : List Int) : (num l).2.1 ≤ l.length := by
  cases l with
  | nil => simp [num]
  | cons c l =>
    rw [num_cons]
    (repeat' split) <;> simp <;> omega
theorem num_U64 (l : List Int) (h : Byt l) : U64 (num l).1 := by
  cases e : (num l).2.2 with
  | ok =>
    have := form_num l h (num l).1 (num l).2.1 (by rw [← e])
    exact this.1
  | no n => rw [(num_bad l (by rw [e]; simp)).1]; unfold U64; omega
  | ref s n => rw [(num_bad l (by rw [e]; simp)).1]; unfold U64; omega

/-! A reader's state. -/
structure RS where
  xs : List Int
  er : Er
def peekM (s : RS) : Nat × Nat × Er := match s.er with
  | .ok => num s.xs
  | e => (0, 0, e)
def failM (e : Er) (n : Int) : Er := match e with
  | .ok => .no n
  | e => e
def uintM (s : RS) (most : Nat) : Nat × RS := if most < (peekM s).1 then (0, ⟨s.xs, failM (peekM s).2.2 5⟩) else ((peekM s).1, ⟨s.xs.drop (peekM s).2.1, (peekM s).2.2⟩)
/-- What a number with a sign is written as, and back. -/
def unzig (x : Nat) : Int := if x % 2 = 0 then (x / 2 : Nat) else - ((x / 2 : Nat) : Int) - 1
def zig (x : Int) : Nat := if 0 ≤ x then 2 * x.toNat else 2 * (-(x + 1)).toNat + 1
theorem unzig_zig (x : Int) : unzig (zig x) = x := by
  unfold unzig zig
  split <;> split <;> omega
theorem zig_unzig (x : Nat) : zig (unzig x) = x := by
  unfold unzig zig
  split <;> split <;> omega
def intM (s : RS) : Int × RS := (unzig (peekM s).1, ⟨s.xs.drop (peekM s).2.1, (peekM s).2.2⟩)
def textM (s : RS) (most : Int) : List Int × RS :=
  if (max most 0).toNat < (peekM s).1 then ([], ⟨s.xs, failM (peekM s).2.2 5⟩)
  else if s.xs.length - (peekM s).2.1 < (peekM s).1 then ([], ⟨s.xs, failM (peekM s).2.2 2⟩)
  else ((s.xs.drop (peekM s).2.1).take (peekM s).1, ⟨s.xs.drop ((peekM s).2.1 + (peekM s).1), (peekM s).2.2⟩)
theorem peekM_le (s : RS) : (peekM s).2.1 ≤ s.xs.length := by
  unfold peekM
  split
  · exact num_le _
  · simp
theorem peekM_U64 (s : RS) (h : Byt s.xs) : U64 (peekM s).1 := by
  unfold peekM
  split
  · exact num_U64 _ h
  · unfold U64; simp
end Wire
end Go.Proofs.Ytihgmlcmdpmhhaa
