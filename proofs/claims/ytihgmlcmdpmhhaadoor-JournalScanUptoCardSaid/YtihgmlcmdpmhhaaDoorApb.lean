/-
  The forms of numbers, as lists: plain Lean.
-/
import Derived.Lib.BitFns
import Derived.Shelf.Strconv.Itoa0
import Derived.Test.YtihgmlcmdpmhhaaDoorProg
import Derived.Test.YtihgmlcmdpmhhaaDoorApN
import Derived.Outline
import Derived.Deep.RegionHeld3
import Derived.Deep.QuietTactic
namespace Go.Proofs.YtihgmlcmdpmhhaaDoor
set_option linter.unusedVariables false
namespace Wire
/-- A uint64 (the great numeral behind a name). -/
def U64 (x : Nat) : Prop := x < 18446744073709551616

/-- An int64 (the great numerals behind a name). -/
def I64 (x : Int) : Prop := -9223372036854775808 ≤ x ∧ x ≤ 9223372036854775807

def hi (x : Nat) : Nat → List Int
  | 0 => []
  | n + 1 => (((x / 256 ^ n) % 256 : Nat) : Int) :: hi x n
theorem hi_length (x n : Nat) : (hi x n).length = n := by induction n with | zero => rfl | succ n ih => simp [hi, ih]
/-- The form of a number. -/
def size (x : Nat) : Nat := (Lib.bitLen x + 7) / 8
def form (x : Nat) : List Int := if x < 248 then [(x : Int)] else ((247 + size x : Nat) : Int) :: hi x (size x)
theorem bitLen_le (x : Nat) (hx : U64 x) : Lib.bitLen x ≤ 64 := Lib.bitLen_le x 64 (Nat.le_refl _) hx
theorem size_le (x : Nat) (hx : U64 x) : size x ≤ 8 := by have := bitLen_le x hx; unfold size; omega
theorem form_length (x : Nat) (hx : U64 x) : (form x).length ≤ 9 := by
  have := size_le x hx
  unfold form; split <;> simp [hi_length]; omega
theorem form_pos (x : Nat) : 0 < (form x).length := by unfold form; split <;> simp

theorem aux_spec : ∀ (f x : Nat), x < 2 ^ f → x < 2 ^ Lib.bitLenAux f x ∧ (x ≠ 0 → 2 ^ Lib.bitLenAux f x ≤ 2 * x)
  | 0, x, h => by simp [Lib.bitLenAux] at *; omega
  | f + 1, x, h => by
    unfold Lib.bitLenAux
    split
    · subst_vars; simp
    · rename_i h0
      obtain ⟨h1, h2⟩ := aux_spec f (x / 2) (by rw [Nat.pow_succ] at h; omega)
      rw [Nat.add_comm 1, Nat.pow_succ]
      refine ⟨by omega, fun _ => ?_⟩
      by_cases hx : x / 2 = 0
      · have : x = 1 := by omega
        subst this
        have : Lib.bitLenAux f 0 = 0 := by cases f <;> simp [Lib.bitLenAux]
        simp [this]
      · have := h2 hx; omega
theorem size_spec (x : Nat) (hx : U64 x) : x < 256 ^ size x ∧ (x ≠ 0 → 1 ≤ size x ∧ 256 ^ (size x - 1) ≤ x) := by
  obtain ⟨h1, h2⟩ := aux_spec 64 x hx
  have e : ∀ n, 256 ^ n = 2 ^ (8 * n) := fun n => by rw [Nat.pow_mul]
  refine ⟨Nat.lt_of_lt_of_le h1 (by rw [e]; exact Nat.pow_le_pow_right (by omega) (by unfold size Lib.bitLen; omega)), fun h0 => ?_⟩
  have h3 := h2 h0
  have hb : 1 ≤ Lib.bitLen x := by
    rcases Nat.eq_zero_or_pos (Lib.bitLen x) with h | h
    · unfold Lib.bitLen at h; rw [h] at h1; simp at h1; omega
    · exact h
  refine ⟨by unfold size; omega, ?_⟩
  rw [e]
  have h4 : 2 ^ (8 * (size x - 1)) ≤ 2 ^ (Lib.bitLen x - 1) := Nat.pow_le_pow_right (by omega) (by unfold size; omega)
  have h5 : 2 ^ (Lib.bitLen x) = 2 ^ (Lib.bitLen x - 1) * 2 := by rw [← Nat.pow_succ]; congr 1; omega
  have h6 : 2 ^ Lib.bitLen x ≤ 2 * x := h3
  omega

/-- Two lists part at place d, and in this sense. -/
def Part (A B : List Int) (d : Nat) (P : Prop) : Prop := d < A.length ∧ d < B.length ∧ (∀ j, j < d → A.getD j 0 = B.getD j 0) ∧ A.getD d 0 ≠ B.getD d 0 ∧ (A.getD d 0 < B.getD d 0 ↔ P)
theorem Part.cons {A B : List Int} {d : Nat} {P : Prop} (c : Int) (h : Part A B d P) : Part (c :: A) (c :: B) (d + 1) P := by
  obtain ⟨h1, h2, h3, h4, h5⟩ := h
  refine ⟨by simpa using h1, by simpa using h2, fun j hj => ?_, by simpa using h4, by simpa using h5⟩
  cases j with
  | zero => rfl
  | succ j => simpa using h3 j (by omega)
theorem Part.head {A B : List Int} {P : Prop} {a b : Int} (h : a ≠ b) (hp : a < b ↔ P) : Part (a :: A) (b :: B) 0 P :=
  ⟨by simp, by simp, fun j hj => by omega, by simpa using h, by simpa using hp⟩
theorem Part.iff {A B : List Int} {d : Nat} {P Q : Prop} (h : Part A B d P) (hp : P ↔ Q) : Part A B d Q := ⟨h.1, h.2.1, h.2.2.1, h.2.2.2.1, h.2.2.2.2.trans hp⟩
theorem hi_part (x y : Nat) : ∀ n, x % 256 ^ n ≠ y % 256 ^ n → ∃ d, Part (hi x n) (hi y n) d (x % 256 ^ n < y % 256 ^ n)
  | 0, h => by simp [Nat.mod_one] at h
  | n + 1, h => by
    have ex : x % 256 ^ (n + 1) = (x / 256 ^ n % 256) * 256 ^ n + x % 256 ^ n := by
      rw [Nat.pow_succ, Nat.mod_mul, Nat.mul_comm, Nat.add_comm]
    have ey : y % 256 ^ (n + 1) = (y / 256 ^ n % 256) * 256 ^ n + y % 256 ^ n := by
      rw [Nat.pow_succ, Nat.mod_mul, Nat.mul_comm, Nat.add_comm]
    have hp : 0 < 256 ^ n := Nat.pow_pos (by omega)
    have hx := Nat.mod_lt x hp
    have hy := Nat.mod_lt y hp
    by_cases e : x / 256 ^ n % 256 = y / 256 ^ n % 256
    · obtain ⟨d, hd⟩ := hi_part x y n (fun e' => h (by rw [ex, ey, e, e']))
      refine ⟨d + 1, ?_⟩
      unfold hi
      rw [e]
      refine (hd.cons _).iff ?_
      rw [ex, ey, e]; omega
    · refine ⟨0, ?_⟩
      unfold hi
      refine Part.head (by omega) ?_
      rw [ex, ey]
      generalize x / 256 ^ n % 256 = a at *
      generalize y / 256 ^ n % 256 = b at *
      generalize 256 ^ n = m at *
      constructor
      · intro hlt
        have h2 : a + 1 ≤ b := by omega
        have := Nat.mul_le_mul_right m h2
        rw [Nat.add_mul] at this
        omega
      · intro hlt
        rcases Nat.lt_or_ge a b with h3 | h3
        · omega
        · have h2 : b + 1 ≤ a := by omega
          have := Nat.mul_le_mul_right m h2
          rw [Nat.add_mul] at this
          omega
theorem form_part (x y : Nat) (hx : U64 x) (hy : U64 y) (h : x ≠ y) : ∃ d, Part (form x) (form y) d (x < y) := by
  obtain ⟨x1, x2⟩ := size_spec x hx
  obtain ⟨y1, y2⟩ := size_spec y hy
  unfold form
  by_cases hx8 : x < 248 <;> by_cases hy8 : y < 248 <;> simp only [hx8, hy8, if_true, if_false]
  · exact ⟨0, Part.head (by omega) (by omega)⟩
  · obtain ⟨hs, _⟩ := y2 (by omega)
    exact ⟨0, Part.head (by omega) (by omega)⟩
  · obtain ⟨hs, _⟩ := x2 (by omega)
    exact ⟨0, Part.head (by omega) (by omega)⟩
  · obtain ⟨hs, x3⟩ := x2 (by omega)
    obtain ⟨ht, y3⟩ := y2 (by omega)
    by_cases e : size x = size y
    · rw [e] at x1 ⊢
      obtain ⟨d, hd⟩ := hi_part x y (size y) (by rw [Nat.mod_eq_of_lt x1, Nat.mod_eq_of_lt y1]; exact h)
      rw [Nat.mod_eq_of_lt x1, Nat.mod_eq_of_lt y1] at hd
      exact ⟨d + 1, hd.cons _⟩
    · refine ⟨0, Part.head (by omega) ?_⟩
      rcases Nat.lt_or_ge (size x) (size y) with hlt | hge
      · have : 256 ^ size x ≤ 256 ^ (size y - 1) := Nat.pow_le_pow_right (by omega) (by omega)
        omega
      · have : 256 ^ size y ≤ 256 ^ (size x - 1) := Nat.pow_le_pow_right (by omega) (by omega)
        omega

/-! Reading a number. -/
inductive Er where
  | ok
  | no (n : Int)
  | ref (s : ByteArray) (n : Int)
def Byt (l : List Int) : Prop := ∀ c, c ∈ l → 0 ≤ c ∧ c ≤ 255
theorem Byt.tail {c : Int} {l : List Int} (h : Byt (c :: l)) : Byt l := fun d hd => h d (List.mem_cons_of_mem _ hd)
theorem Byt.head {c : Int} {l : List Int} (h : Byt (c :: l)) : 0 ≤ c ∧ c ≤ 255 := h c (List.mem_cons_self ..)
theorem Byt.take {l : List Int} (h : Byt l) (n : Nat) : Byt (l.take n) := fun c hc => h c (List.mem_of_mem_take hc)
theorem Byt.drop {l : List Int} (h : Byt l) (n : Nat) : Byt (l.drop n) := fun c hc => h c (List.mem_of_mem_drop hc)
theorem Byt.append {l m : List Int} (h : Byt l) (k : Byt m) : Byt (l ++ m) := fun c hc => (List.mem_append.1 hc).elim (h c) (k c)
theorem Byt.getD {l : List Int} (h : Byt l) (i : Nat) : 0 ≤ l.getD i 0 ∧ l.getD i 0 ≤ 255 := by
  rw [List.getD_eq_getElem?_getD]
  rcases Nat.lt_or_ge i l.length with hi | hi
  · rw [List.getElem?_eq_getElem hi]; exact h _ (List.getElem_mem hi)
  · rw [List.getElem?_eq_none hi]; simp
theorem Byt.hi (x : Nat) : ∀ n, Byt (hi x n)
  | 0 => fun c hc => by cases hc
  | n + 1 => fun c hc => by
    rcases List.mem_cons.1 hc with rfl | hc
    · omega
    · exact Byt.hi x n c hc
theorem Byt.form (x : Nat) (hx : U64 x) : Byt (form x) := by
  unfold Wire.form
  split
  · intro c hc
    obtain rfl : c = x := by simpa using hc
    omega
  · intro c hc
    rcases List.mem_cons.1 hc with rfl | hc
    · have := size_le x hx; omega
    · exact Byt.hi x _ c hc
def lowF (a : Nat) (l : List Int) : Nat := l.foldl (fun a c => a * 256 + c.toNat) a
def low (l : List Int) : Nat := lowF 0 l
theorem lowF_eq (l : List Int) : ∀ a, lowF a l = a * 256 ^ l.length + low l := by
  induction l with
  | nil => intro a; simp [lowF, low]
  | cons c l ih =>
    intro a
    have e1 : lowF a (c :: l) = lowF (a * 256 + c.toNat) l := rfl
    have e2 : low (c :: l) = lowF (0 * 256 + c.toNat) l := rfl
    rw [e1, e2, ih, ih (0 * 256 + c.toNat), List.length_cons, Nat.pow_succ]
    simp only [Nat.add_mul, Nat.zero_mul, Nat.zero_add, Nat.mul_assoc, Nat.mul_comm 256, Nat.add_assoc]
theorem low_cons (c : Int) (l : List Int) : low (c :: l) = c.toNat * 256 ^ l.length + low l := by
  have : low (c :: l) = lowF (0 * 256 + c.toNat) l := rfl
  rw [this, lowF_eq]; simp
theorem low_snoc (c : Int) (l : List Int) : low (l ++ [c]) = low l * 256 + c.toNat := by simp [low, lowF]
theorem low_lt (l : List Int) (h : Byt l) : low l < 256 ^ l.length := by
  induction l with
  | nil => simp [low, lowF]
  | cons c l ih =>
    have h1 := ih h.tail
    have h2 := h.head
    rw [low_cons, List.length_cons, Nat.pow_succ]
    generalize 256 ^ l.length = m at *
    have : c.toNat * m ≤ 255 * m := Nat.mul_le_mul_right m (by omega)
    omega
theorem low_hi (x : Nat) : ∀ n, low (hi x n) = x % 256 ^ n
  | 0 => by simp [hi, low, lowF, Nat.mod_one]
  | n + 1 => by
    rw [hi, low_cons, low_hi x n, hi_length, Nat.pow_succ, Nat.mod_mul, Nat.mul_comm, Nat.add_comm, Int.toNat_natCast]
theorem hi_low (l : List Int) (h : Byt l) : hi (low l) l.length = l := by
  induction l with
  | nil => rfl
  | cons c l ih =>
    have h1 := low_lt l h.tail
    have h2 := h.head
    have hp : 0 < 256 ^ l.length := Nat.pow_pos (by omega)
    rw [List.length_cons, hi]
    have e : ∀ y : Nat, hi (c.toNat * 256 ^ l.length + y) l.length = hi y l.length := by
      intro y
      have key : ∀ n (a b : Nat), a % 256 ^ n = b % 256 ^ n → hi a n = hi b n := by
        intro n
        induction n with
        | zero => intros; rfl
        | succ n ihn =>
          intro a b hab
          rw [Nat.pow_succ, Nat.mod_mul, Nat.mod_mul] at hab
          have hpn : 0 < 256 ^ n := Nat.pow_pos (by omega)
          have m1 := Nat.mod_lt a hpn
          have m2 := Nat.mod_lt b hpn
          have h0 : a % 256 ^ n = b % 256 ^ n := by
            have := congrArg (· % 256 ^ n) hab
            simpa [Nat.add_mul_mod_self_left] using this
          have h3 : a / 256 ^ n % 256 = b / 256 ^ n % 256 := by
            rw [h0] at hab
            exact Nat.eq_of_mul_eq_mul_left hpn (Nat.add_left_cancel hab)
          rw [hi, hi, h3, ihn a b h0]
      exact key _ _ _ (by rw [Nat.add_comm, Nat.add_mul_mod_self_right])
    rw [low_cons, e, ih h.tail]
    congr 1
    rw [Nat.add_comm, Nat.add_mul_div_right _ _ hp, Nat.div_eq_of_lt h1]
    omega
def wANumber : ByteArray := ⟨#[97, 32, 110, 117, 109, 98, 101, 114]⟩
/-- The number with whose form a list begins. -/
def num : List Int → Nat × Nat × Er
  | [] => (0, 0, .no 2)
  | c :: l =>
    if c < 248 then (c.toNat, 1, .ok)
    else if l.length < (c - 247).toNat then (0, 0, .no 2)
    else if low (l.take (c - 247).toNat) < 248 ∨ Lib.bitLen (low (l.take (c - 247).toNat)) ≤ 8 * ((c - 247).toNat - 1) then (0, 0, .ref wANumber 4)
    else (low (l.take (c - 247).toNat), (c - 247).toNat + 1, .ok)
theorem num_cons (c : Int) (l : List Int) : num (c :: l) = if c < 248 then (c.toNat, 1, .ok)
    else if l.length < (c - 247).toNat then (0, 0, .no 2)
    else if low (l.take (c - 247).toNat) < 248 ∨ Lib.bitLen (low (l.take (c - 247).toNat)) ≤ 8 * ((c - 247).toNat - 1) then (0, 0, .ref wANumber 4)
    else (low (l.take (c - 247).toNat), (c - 247).toNat + 1, .ok) := rfl
theorem size_eq (x n : Nat) (hx : U64 x) (h1 : 256 ^ (n - 1) ≤ x) (h2 : x < 256 ^ n) (hn : 1 ≤ n) : size x = n := by
  obtain ⟨s1, s2⟩ := size_spec x hx
  have h0 : x ≠ 0 := by have : 0 < 256 ^ (n - 1) := Nat.pow_pos (by omega); omega
  obtain ⟨s3, s4⟩ := s2 h0
  rcases Nat.lt_trichotomy (size x) n with h | h | h
  · have : 256 ^ size x ≤ 256 ^ (n - 1) := Nat.pow_le_pow_right (by omega) (by omega)
    omega
  · exact h
  · have : 256 ^ n ≤ 256 ^ (size x - 1) := Nat.pow_le_pow_right (by omega) (by omega)
    omega
theorem bitLen_ge (x n : Nat) (hx : U64 x) : ¬ Lib.bitLen x ≤ n ↔ 2 ^ n ≤ x := by
  obtain ⟨h1, h2⟩ := aux_spec 64 x hx
  constructor
  · intro h
    have h0 : x ≠ 0 := by
      rintro rfl
      have : Lib.bitLen 0 = 0 := by decide
      omega
    have h3 := h2 h0
    have h4 : 2 ^ (n + 1) ≤ 2 ^ Lib.bitLenAux 64 x := Nat.pow_le_pow_right (by omega) (by unfold Lib.bitLen at h; omega)
    rw [Nat.pow_succ] at h4
    omega
  · intro h h5
    have : 2 ^ Lib.bitLenAux 64 x ≤ 2 ^ n := Nat.pow_le_pow_right (by omega) h5
    omega
/-- A form is read as its number. -/
theorem num_form (x : Nat) (hx : U64 x) (l : List Int) : num (form x ++ l) = (x, (form x).length, .ok) := by
  unfold form
  split
  · rename_i h
    have : ((x : Int) < 248) := by omega
    simp [num, this]
  · rename_i h
    obtain ⟨s1, s2⟩ := size_spec x hx
    obtain ⟨s3, s4⟩ := s2 (by omega)
    have hs := size_le x hx
    have e : (((247 + size x : Nat) : Int) - 247).toNat = size x := by omega
    have e2 : (hi x (size x) ++ l).take (size x) = hi x (size x) := by rw [List.take_append_of_le_length (by rw [hi_length]; omega), List.take_of_length_le (by rw [hi_length]; omega)]
    have e3 : low (hi x (size x)) = x := by rw [low_hi, Nat.mod_eq_of_lt s1]
    have e4 : ¬ Lib.bitLen x ≤ 8 * (size x - 1) := by
      rw [bitLen_ge x _ hx, Nat.pow_mul]; exact s4
    rw [List.cons_append, num, e, e2, e3, if_neg (by omega), if_neg (by simp [hi_length]), if_neg (by omega)]
    simp [hi_length]
/-- What is read as a number is its form. -/
theorem form_num (l : List Int) (h : Byt l) (x n : Nat) (hn : num l = (x, n, .ok)) : U64 x ∧ l.take n = form x ∧ n = (form x).length ∧ n ≤ l.length := by
  cases l with
  | nil => simp [num] at hn
  | cons c l =>
    have hc := h.head
    rw [num_cons] at hn
    split at hn
    · rename_i h8
      simp only [Prod.mk.injEq] at hn
      obtain ⟨rfl, rfl, _⟩ := hn
      refine ⟨by unfold U64; omega, ?_, ?_, by simp⟩
      · unfold form
        rw [if_pos (by omega)]
        simp; omega
      · unfold form
        rw [if_pos (by omega)]
        rfl
    · rename_i h8
      split at hn
      · simp at hn
      · rename_i hl
        split at hn
        · simp at hn
        · rename_i hf
          simp only [Prod.mk.injEq] at hn
          obtain ⟨hx, rfl, _⟩ := hn
          have hm : (c - 247).toNat ≤ 8 := by omega
          generalize hmm : (c - 247).toNat = m at *
          have hlen : (l.take m).length = m := by rw [List.length_take]; omega
          have hlt := low_lt _ (h.tail.take m)
          rw [hx, hlen] at hlt
          rw [hx] at hf
          have hU : U64 x := by
            have : 256 ^ m ≤ 256 ^ 8 := Nat.pow_le_pow_right (by omega) hm
            unfold U64
            have e : (256 : Nat) ^ 8 = 18446744073709551616 := by decide
            omega
          have hge : 2 ^ (8 * (m - 1)) ≤ x := (bitLen_ge x _ hU).1 (by omega)
          rw [Nat.pow_mul] at hge
          have hs : size x = m := size_eq x m hU hge hlt (by omega)
          refine ⟨hU, ?_, ?_, ?_⟩
          · unfold form
            rw [if_neg (by omega), hs, List.take_succ_cons]
            congr 1
            · omega
            · have := hi_low _ (h.tail.take m)
              rw [hlen, hx] at this
              exact this.symm
          · unfold form
            rw [if_neg (by omega), hs]
            simp [hi_length]
          · simp; omega
/-- Where a number is none, nothing is taken. -/
theorem num_bad (l : List Int) : (num l).2.2 ≠ .ok → (num l).1 = 0 ∧ (num l).2.1 = 0 := by
  cases l with
  | nil => simp [num]
  | cons c l =>
    rw [num_cons]
    (repeat' split) <;> simp
theorem num_le (l : List Int) : (num l).2.1 ≤ l.length := by
  cases l with
  | nil => simp [num]
  | cons c l =>
    rw [num_cons]
    (repeat' split) <;> simp <;> omega
theorem num_U64 (l : List Int) (h : Byt l) : U64 (num l).1 := by
  cases e : (num l).2.2 with
  | ok =>
    have := form_num l h (num l).1 (num l).2.1 (by rw [← e])
    exact this.1
  | no n => rw [(num_bad l (by rw [e]; simp)).1]; unfold U64; omega
  | ref s n => rw [(num_bad l (by rw [e]; simp)).1]; unfold U64; omega

/-! A reader's state. -/
structure RS where
  xs : List Int
  er : Er
def peekM (s : RS) : Nat × Nat × Er := match s.er with
  | .ok => num s.xs
  | e => (0, 0, e)
def failM (e : Er) (n : Int) : Er := match e with
  | .ok => .no n
  | e => e
def uintM (s : RS) (most : Nat) : Nat × RS := if most < (peekM s).1 then (0, ⟨s.xs, failM (peekM s).2.2 5⟩) else ((peekM s).1, ⟨s.xs.drop (peekM s).2.1, (peekM s).2.2⟩)
/-- What a number with a sign is written as, and back. -/
def unzig (x : Nat) : Int := if x % 2 = 0 then (x / 2 : Nat) else - ((x / 2 : Nat) : Int) - 1
def zig (x : Int) : Nat := if 0 ≤ x then 2 * x.toNat else 2 * (-(x + 1)).toNat + 1
theorem unzig_zig (x : Int) : unzig (zig x) = x := by
  unfold unzig zig
  split <;> split <;> omega
theorem zig_unzig (x : Nat) : zig (unzig x) = x := by
  unfold unzig zig
  split <;> split <;> omega
def intM (s : RS) : Int × RS := (unzig (peekM s).1, ⟨s.xs.drop (peekM s).2.1, (peekM s).2.2⟩)
def textM (s : RS) (most : Int) : List Int × RS :=
  if (max most 0).toNat < (peekM s).1 then ([], ⟨s.xs, failM (peekM s).2.2 5⟩)
  else if s.xs.length - (peekM s).2.1 < (peekM s).1 then ([], ⟨s.xs, failM (peekM s).2.2 2⟩)
  else ((s.xs.drop (peekM s).2.1).take (peekM s).1, ⟨s.xs.drop ((peekM s).2.1 + (peekM s).1), (peekM s).2.2⟩)
theorem peekM_le (s : RS) : (peekM s).2.1 ≤ s.xs.length := by
  unfold peekM
  split
  · exact num_le _
  · simp
theorem peekM_U64 (s : RS) (h : Byt s.xs) : U64 (peekM s).1 := by
  unfold peekM
  split
  · exact num_U64 _ h
  · unfold U64; simp
end Wire
end Go.Proofs.YtihgmlcmdpmhhaaDoor
/- The contract of bits.Len64, laid over this dump (the shelf's tool wrote the elder text). -/
namespace Go.Proofs
open Go.Shelf
def Tryd.lays129_ren : Go.Shelf.Ren := ⟨fun | 129 => 71 | n => n, fun | 53 => 45 | 3 => 3 | 4 => 4 | 46 => 122 | 5 => 5 | 9 => 9 | n => n, fun | n => n⟩
theorem Tryd.lays129 : Go.Proofs.Lays.n129 Tryd.prog Tryd.lays129_ren := {
  mixed := by kernel_rfl
  f129 := Tryd.func71.trans (congrArg some (by kernel_rfl))
  t3 := Tryd.underlying3
  a3 := Tryd.isAgg3
  z3 := Tryd.sizeOf3
  v3 := Tryd.zeroValue3
  t4 := Tryd.underlying4
  a4 := Tryd.isAgg4
  z4 := Tryd.sizeOf4
  v4 := Tryd.zeroValue4
  t5 := Tryd.underlying5
  a5 := Tryd.isAgg5
  z5 := Tryd.sizeOf5
  v5 := Tryd.zeroValue5
  t9 := Tryd.underlying9
  a9 := Tryd.isAgg9
  z9 := Tryd.sizeOf9
  v9 := Tryd.zeroValue9
  t46 := Tryd.underlying122
  a46 := Tryd.isAgg122
  z46 := Tryd.sizeOf122
  v46 := Tryd.zeroValue122
  t53 := Tryd.underlying45
  a53 := Tryd.isAgg45
  z53 := Tryd.sizeOf45
  v53 := Tryd.zeroValue45 }
/-- bits.Len64: "Len64 returns the minimum number of bits required to represent x; the result is 0 for x == 0.": IT RETURNS 'Lib.bitLen x'; the world is as it was. ('h0', 'h1': x is a uint64.) (LAID: no walk: one application.) -/
theorem Tryd.bits_Len64 (x : Int) (w : World) (h0 : 0 ≤ x) (h1 : x ≤ 18446744073709551615) :
    Calls Tryd.prog 71 #[.int .u64 x] w fun e w' => e = .returned (.int .i64 (Lib.bitLen x.toNat)) ∧ w' = w := Any.bits_Len64 Tryd.lays129 x w h0 h1
end Go.Proofs
namespace Go.Proofs.YtihgmlcmdpmhhaaDoor
set_option linter.unusedVariables false
namespace Wire
open Go.RowKit Mem

theorem info_u8 : (Tryd.prog.info? 5).map (fun i => (i.zero, i.size, i.bytes)) = some (some (.int .u8 0), 1, 1) := by kernel_rfl

theorem shiftval (x p : Nat) : (x : Int) / 2 ^ (8 * (p + 1) - 8) % 256 = (((x / 256 ^ p) % 256 : Nat) : Int) := by
  rw [show 8 * (p + 1) - 8 = 8 * p from by omega, show (2 : Int) ^ (8 * p) = ((256 ^ p : Nat) : Int) from by rw [Int.pow_mul, Int.natCast_pow]; rfl, Int.natCast_emod, Int.natCast_ediv]
  rfl

set_option maxHeartbeats 1000000 in
set_option maxRecDepth 100000 in
theorem high_any (base : Nat) (v : Value) (xs : List Int) (x n : Nat) (w : World) (hx : U64 x) (hn : n ≤ 8) (hl : xs.length ≤ 225179981368320)
    (ho : OwnN w base 5 .u8 v xs) (hb : base ≤ w.heap.size) :
    Calls Tryd.prog 77 #[v, .int .u64 x, .int .i64 n] w fun e w' => ∃ v', e = .returned v' ∧ OwnN w' base 5 .u8 v' (xs ++ hi x n) ∧ w.grownBy w' v.ownBlock ∧ (v'.ownBlock = v.ownBlock ∨ ∃ b, v'.ownBlock = some b ∧ w.heap.size ≤ b) := by
  go_enter Tryd.func77, Tryd.ntmps77
  go_wp2
  have Ho := Held.mk ho
  clear ho
  go_loopw [0, 2] (fun c i wr => ∃ (m : Nat) (ys : List Int), m ≤ n ∧ i = .int .i64 m ∧ ys.length + m = xs.length + n ∧ OwnN wr base 5 .u8 c ys ∧ Held (ys ++ hi x m = xs ++ hi x n) ∧ w.grownBy wr v.ownBlock ∧ Held (c.ownBlock = v.ownBlock ∨ ∃ b, c.ownBlock = some b ∧ w.heap.size ≤ b)) (fun _ i _ => (intOf i).toNat)
  case atStart => exact ⟨n, xs, Nat.le_refl _, rfl, rfl, Ho.out, ⟨rfl⟩, World.grownBy.refl _ _, ⟨.inl rfl⟩⟩
  case round =>
    obtain ⟨m, ys, hm, rfl, hlen, hown, he, hg, hat⟩ := hrel
    by_cases h0 : 0 < m
    · go_wp2_with (at_builtin; go_loud (refine app1N base rfl (.tmp 11) (.tmp 18) 22 5 .u8 1 rfl Tryd.underlying22 info_u8 (by decide) u0 ys _ rfl rfl hown ?c1 ?c2 ?_); (case c1 => (have := hg.size; omega)); (case c2 => omega); intro v1 w1 ho1 hg1 hat1)
      go_roundw
      case rel =>
        obtain ⟨p, rfl⟩ : ∃ p, m = p + 1 := ⟨m - 1, by omega⟩
        refine ⟨p, _, by omega, by go_num, ?_, ho1, ⟨?_⟩, grownBy.next hg hat.out hg1, ⟨grownBy.at_ hg.size hat.out hat1⟩⟩
        · simp; omega
        · rw [shiftval, List.append_assoc]; exact he.out
      case measure => simp [intOf]; omega
    · go_wp2
      go_ret
      obtain rfl : m = 0 := by omega
      refine ⟨_, rfl, ?_, hg, hat.out⟩
      have := he.out
      simp only [hi, List.append_nil] at this
      rw [← this]; exact hown

theorem wf_u64 {a : Int} (h : (Lit.int .u64 a).wf = true) : 0 ≤ a ∧ U64 a.toNat := by
  simp [Lit.wf, IntKind.min, IntKind.max, IntKind.signed, IntKind.bits] at h
  unfold U64; omega
theorem len64 (x : Nat) (w : World) (hx : U64 x) : Calls Tryd.prog 71 #[.int .u64 x] w fun e w' => e = .returned (.int .i64 (Lib.bitLen x)) ∧ w' = w := by
  unfold U64 at hx
  have := Tryd.bits_Len64 x w (by omega) (by omega)
  simpa using this
set_option maxHeartbeats 1000000 in
set_option maxRecDepth 100000 in
theorem put_any (base : Nat) (v : Value) (xs : List Int) (x : Nat) (w : World) (hx : U64 x) (hl : xs.length ≤ 225179981368310)
    (ho : OwnN w base 5 .u8 v xs) (hb : base ≤ w.heap.size) :
    Calls Tryd.prog 76 #[v, .int .u64 x] w fun e w' => ∃ v', e = .returned v' ∧ OwnN w' base 5 .u8 v' (xs ++ form x) ∧ w.grownBy w' v.ownBlock ∧ (v'.ownBlock = v.ownBlock ∨ ∃ b, v'.ownBlock = some b ∧ w.heap.size ≤ b) := by
  by_cases h : x < 248
  · go_enter Tryd.func76, Tryd.ntmps76
    go_wp2_with (at_builtin; go_loud (refine app1N base rfl (.tmp 8) (.tmp 11) 22 5 .u8 1 rfl Tryd.underlying22 info_u8 (by decide) v xs _ rfl rfl ho ?c1 ?c2 ?_); (case c1 => omega); (case c2 => omega); intro v1 w1 ho1 hg1 hat1)
    go_ret
    exact ⟨_, rfl, by rw [form, if_pos h]; exact ho1, hg1, hat1⟩
  · have hs := size_le x hx
    have hbl := bitLen_le x hx
    go_enter Tryd.func76, Tryd.ntmps76
    go_wp2_with fail
    refine (len64 x _ hx).mono ?_
    rintro e w' ⟨rfl, rfl⟩
    go_wp2_with (at_builtin; go_loud (refine app1N base rfl (.tmp 17) (.tmp 21) 22 5 .u8 1 rfl Tryd.underlying22 info_u8 (by decide) v xs _ rfl rfl ho ?c1 ?c2 ?_); (case c1 => omega); (case c2 => omega); intro v1 w1 ho1 hg1 hat1)
    rw [show ((Lib.bitLen x : Int) + 7) / 8 = ((size x : Nat) : Int) from by unfold size; omega]
    have hw := hg1.size
    refine (high_any base v1 _ x (size x) w1 hx hs (by simp; omega) ho1 (by omega)).mono ?_
    rintro e w2 ⟨v2, rfl, ho2, hg2, hat2⟩
    have HO := Held.mk ho2
    have HG := Held.mk (grownBy.next hg1 hat1 hg2)
    have HA := Held.mk (grownBy.at_ hw hat1 hat2)
    clear ho2 hg2 hat2 hg1 hat1 ho1 hw
    go_wp2
    go_ret
    refine ⟨_, rfl, ?_, HG.out, HA.out⟩
    have e1 : xs ++ form x = xs ++ [247 + ((Lib.bitLen x : Int) + 7) / 8] ++ hi x (size x) := by
      rw [form, if_neg h, List.append_assoc]
      have : ((247 + size x : Nat) : Int) = 247 + ((Lib.bitLen x : Int) + 7) / 8 := by unfold size; omega
      rw [this]; rfl
    rw [e1]; exact HO.out
end Wire
end Go.Proofs.YtihgmlcmdpmhhaaDoor
/- append: what is left behind where the row moves. -/
namespace Go.Proofs.YtihgmlcmdpmhhaaDoor
set_option linter.unusedVariables false
set_option linter.unusedSimpArgs false
namespace Mem
open Go.RowKit Lib
section
variable {P : Program} (w : World)
theorem run_append_own_mvd (base : Nat) (t ty e : TypeId) (i : TypeInfo) (z : Value) (size bytes : Nat) (ht : P.underlying t = some (.slice e)) (hi : P.info? e = some i) (hz : i.zero = some z)
    (hsize : i.size = size) (hby : i.bytes = bytes) (hzs : z.cells.size = size) (hsz : 0 < size)
    (v : Value) (n : Nat) (xs : List Value) (hown : w.ownsW base e size v n xs)
    (a : Addr) (m c : Nat) (news : List Value) (hl : news.length = m * size) (hnews : ∀ j u, news[j]? = some u → w.cell? (a.add j) = some u) (h1 : ∀ u ∈ news, u.oneCell' = true)
    (h63 : n + m ≤ maxLen) (hbytes : ((n + m) + (n + m) / 4 + 192) * bytes ≤ 281474976710656) (hbase : base ≤ w.heap.size) :
    ∃ v' w', (Builtin.append_ #[t, t] ty #[v, .slice (some a) m c]).run P w = .ok v' w' ∧ w'.ownsW base e size v' (n + m) (xs ++ news) ∧ w.grownBy w' v.ownBlock ∧
      (v' = .slice none 0 0 ↔ v = .slice none 0 0 ∧ m = 0) ∧ (v'.ownBlock = v.ownBlock ∨ (v'.ownBlock = some w.heap.size ∧ w.grownBy w' none)) := by
  subst hsize
  subst hby
  have hsmall : n + m ≤ 9223372036854775807 := by simp only [maxLen] at h63; omega
  have hlen : (xs ++ news).length = (n + m) * i.size := by rw [List.length_append, hown.1, hl, Nat.add_mul]
  -- what the growing arm leaves, whatever was there before
  have grown : ∀ (old : Nat), old < n + m → ∀ (row : Option Nat),
      (w.drew.alloc (.cells (xs.toArray ++ news.toArray ++ Builtin.zeroCells z.cells (grownCap w (n + m) old e - (n + m))) e)).ownsW base e i.size
        (.slice (some ⟨w.heap.size, 0, none⟩) (n + m) (grownCap w (n + m) old e)) (n + m) (xs ++ news) ∧
      w.grownBy (w.drew.alloc (.cells (xs.toArray ++ news.toArray ++ Builtin.zeroCells z.cells (grownCap w (n + m) old e - (n + m))) e)) row := by
    intro old ho row
    have hge := grownCap_ge w (n + m) old e
    have hcm : grownCap w (n + m) old e ≤ maxLen := grownCap_le_maxLen w (n + m) old e h63
    refine ⟨⟨hlen, .inr ⟨w.heap.size, _, _, rfl, hbase, heap_alloc_new w.drew _, hge, hcm, ?_, ?_⟩⟩, ⟨rfl, rfl, rfl, by simp, fun k hk _ => by rw [Below.heap_alloc _ _ _ (by simpa using hk)]; rfl⟩⟩
    · refine Nat.le_of_eq (Eq.symm ?_)
      simp only [Array.size_append, List.size_toArray, size_zeroCells, hzs, hown.1, hl, ← Nat.add_mul]
      congr 1
      omega
    · simp only [Array.toList_append, List.append_assoc]
      rw [← List.append_assoc, ← hlen]
      exact List.take_left
  rcases hown.2 with ⟨rfl, rfl⟩ | ⟨g, cap, cur, rfl, hbg, hg, hnc, hcm, hcs, htake⟩
  · have hx : xs = [] := List.eq_nil_of_length_eq_zero (by simpa using hown.1)
    subst hx
    by_cases hm : m = 0
    · subst hm
      have hn : news = [] := List.eq_nil_of_length_eq_zero (by simpa using hl)
      subst hn
      refine ⟨.slice none 0 0, w, ?_, World.ownsW_nil w base e i.size, ⟨rfl, rfl, rfl, Nat.le_refl _, fun _ _ _ => rfl⟩, by simp, Or.inl rfl⟩
      simp [Builtin.append_, run_underlying ht, sizeOf, typeInfo, hi, Builtin.lenOf, Builtin.firstCells, loadCells, loadCellsFrom]
    · have hr := run_append_nil (P := P) w t ty e i z ht hi hz a m c news hl hnews (by omega) (by omega) (by have hb := hbytes; simp only [Nat.zero_add] at hb; exact Nat.le_trans (Nat.mul_le_mul_right _ (by omega)) hb)
      have hgr := grown 0 (by omega) (Value.ownBlock (.slice none 0 0))
      have hgn := grown 0 (by omega) none
      simp only [Nat.zero_add, List.nil_append, Array.empty_append] at hgr hgn ⊢
      exact ⟨_, _, hr, hgr.1, hgr.2, by simp [hm], Or.inr ⟨rfl, hgn.2⟩⟩
  · by_cases hroom : n + m ≤ cap
    · have hfit : n * i.size + news.length ≤ cur.size := Nat.le_trans (by rw [hl, ← Nat.add_mul]; exact Nat.mul_le_mul_right _ hroom) hcs
      have hr := run_append_room (P := P) w t ty e i ht hi g n cap cur hg a m c news hl hnews h1 hroom hfit
      refine ⟨_, _, hr, ⟨hlen, .inr ⟨g, cap, _, rfl, hbg, setRow_heap w g cur _ e _ hg, hroom, hcm, ?_, ?_⟩⟩, ⟨rfl, rfl, rfl, by simp, fun k _ hk => setRow_other w g k _ (fun e => hk (by simp [Value.ownBlock, e]))⟩, by simp, Or.inl rfl⟩
      · simp only [List.size_toArray, List.length_append, List.length_take, List.length_drop, Array.length_toList]
        omega
      · rw [htake, ← hlen]
        exact List.take_left
    · have holds : ∀ j u, xs[j]? = some u → w.cell? ((⟨g, 0, none⟩ : Addr).add j) = some u := hown.cells (g := g) rfl
      have hr := run_append_grow (P := P) w t ty e i z ht hi hz ⟨g, 0, none⟩ n cap xs hown.1 holds a m c news hl hnews (by omega) (by omega) (growslice_fits_wide (by omega) hbytes)
      have hgr := grown cap (by omega) (Value.ownBlock (.slice (some ⟨g, 0, none⟩) n cap))
      exact ⟨_, _, hr, hgr.1, hgr.2, by simp, Or.inr ⟨rfl, (grown cap (by omega) none).2⟩⟩

theorem run_append_mvd (base : Nat) (t ty e : TypeId) (i : TypeInfo) (z : Value) (size bytes : Nat) (ht : P.underlying t = some (.slice e)) (hi : P.info? e = some i) (hz : i.zero = some z)
    (hsize : i.size = size) (hby : i.bytes = bytes) (hzs : z.cells.size = size) (hsz : 0 < size)
    (v : Value) (n : Nat) (xs : List Value) (hown : w.ownsW base e size v n xs)
    (ok : Nat → Prop) (A : Option Addr) (m c : Nat) (news : List Value) (hr : RdV w ok size A m news) (h1 : ∀ u ∈ news, u.oneCell' = true)
    (h63 : n + m ≤ maxLen) (hbytes : ((n + m) + (n + m) / 4 + 192) * bytes ≤ 281474976710656) (hbase : base ≤ w.heap.size) :
    ∃ v' w', (Builtin.append_ #[t, t] ty #[v, .slice A m c]).run P w = .ok v' w' ∧ w'.ownsW base e size v' (n + m) (xs ++ news) ∧ w.grownBy w' v.ownBlock ∧
      (v'.ownBlock = v.ownBlock ∨ (v'.ownBlock = some w.heap.size ∧ w.grownBy w' none)) := by
  rcases A with _ | ad
  · have hm : m = 0 := by
      rcases Nat.eq_zero_or_pos m with h0 | h0
      · exact h0
      · obtain ⟨ad, h, _⟩ := hr.2 h0
        cases h
    subst hm
    have hn : news = [] := List.eq_nil_of_length_eq_zero (by simpa using hr.1)
    subst hn
    exact ⟨v, w, run_append_of_nil w base t ty e i size ht hi v n xs hown c, by simpa using hown, World.grownBy.refl w _, .inl rfl⟩
  · have hcells : ∀ j u, news[j]? = some u → w.cell? (ad.add j) = some u := by
      intro j u hu
      rcases Nat.eq_zero_or_pos m with h0 | h0
      · subst h0
        have hn : news = [] := List.eq_nil_of_length_eq_zero (by simpa using hr.1)
        subst hn
        simp at hu
      · obtain ⟨ad', h, _, hc⟩ := hr.2 h0
        injection h with h
        subst h
        exact hc j u hu
    obtain ⟨v', w', hrun, h2, h3, _, h5⟩ := run_append_own_mvd (P := P) w base t ty e i z size bytes ht hi hz hsize hby hzs hsz v n xs hown ad m c news hr.1 hcells h1 h63 hbytes hbase
    exact ⟨v', w', hrun, h2, h3, h5⟩
end
section
variable {P : Program} {w : World}
theorem appT {ops : Array Oper} {rest : List Oper} {o : Oper} {a : Act} {Q : Exit → Act → World → Prop} (base : Nat) (hgd : o.guard = none) (s x : Operand) (t e : TypeId) (z : Value) (size bytes : Nat)
    (ho : o.op = .call { callee := .builtin .append, args := #[s, x], argTypes := #[t, t] })
    (ht : P.underlying t = some (.slice e)) (hinfo : (P.info? e).map (fun i => (i.zero, i.size, i.bytes)) = some (some z, size, bytes)) (hzs : z.cells.size = size) (hsz : 0 < size) (hb0 : 0 < bytes)
    (v : Value) (n : Nat) (xs : List Value) (hs : a.eval s = v) (hown : w.ownsW base e size v n xs)
    (ok : Nat → Prop) (A : Option Addr) (m c : Nat) (news : List Value) (hx : a.eval x = .slice A m c) (hr : RdV w ok size A m news) (h1 : ∀ u ∈ news, u.oneCell' = true)
    (hbytes : ((n + m) + (n + m) / 4 + 192) * bytes ≤ 281474976710656) (hbase : base ≤ w.heap.size)
    (h : ∀ v' w', w'.ownsW base e size v' (n + m) (xs ++ news) → w.grownBy w' v.ownBlock → (v'.ownBlock = v.ownBlock ∨ (v'.ownBlock = some w.heap.size ∧ w.grownBy w' none)) → wpList P ops Q rest (a.put o.dst v') w') : wpList P ops Q (o :: rest) a w := by
  obtain ⟨i0, hi, hzz⟩ := Option.map_eq_some_iff.1 hinfo
  simp only [Prod.mk.injEq] at hzz
  obtain ⟨hz0, hz1, hz2⟩ := hzz
  have hlen : (n + m) + (n + m) / 4 + 192 ≤ 281474976710656 := Nat.le_trans (Nat.le_mul_of_pos_right _ hb0) hbytes
  refine wpList_plain hgd fun _ hK => ?_
  obtain ⟨v', w', hrun, h2, h3, h4⟩ := run_append_mvd (P := P) w base t o.type e i0 z size bytes ht hi hz0 hz1 hz2 hzs hsz v n xs hown ok A m c news hr h1 (by simp only [maxLen]; omega) hbytes hbase
  unfold Oper.wp execOp
  simp only [ho, resolve, invoke, builtin, Sem.run_bind, Sem.run_pure, Result.andThen_ok, List.map_toArray, List.map_cons, List.map_nil, hs, hx, hrun]
  exact hK _ _ (h v' w' h2 h3 h4)
end
end Mem
end Go.Proofs.YtihgmlcmdpmhhaaDoor
/- Lists apart: what is laid over, grown and read again, for each type of element (no walk). -/
namespace Go.Proofs.YtihgmlcmdpmhhaaDoor
set_option linter.unusedVariables false
set_option linter.unusedSimpArgs false
namespace Aps
open Go.RowKit Mem
/-- The marks of list k, n of them. -/
def mkr (M : Nat → Nat → List Value) (k : Nat) : Nat → List Value
  | 0 => []
  | n + 1 => mkr M k n ++ M k n
structure Marks (M : Nat → Nat → List Value) (s : Nat) : Prop where
  len : ∀ k i, (M k i).length = s
  one : ∀ k i, ∀ u ∈ M k i, u.oneCell' = true
section
variable {M : Nat → Nat → List Value} {s : Nat}
theorem mkr_length (h : Marks M s) (k n : Nat) : (mkr M k n).length = n * s := by
  induction n with
  | zero => simp [mkr]
  | succ n ih => simp [mkr, ih, h.len, Nat.add_mul]
theorem mkr_one (h : Marks M s) (k n : Nat) : ∀ u ∈ mkr M k n, u.oneCell' = true := by
  induction n with
  | zero => simp [mkr]
  | succ n ih =>
    intro u hu
    rcases List.mem_append.1 hu with h1 | h1
    · exact ih u h1
    · exact h.one _ _ u h1
theorem mkr_take (h : Marks M s) (k n m : Nat) (hn : n ≤ m) : (mkr M k m).take (n * s) = mkr M k n := by
  induction m with
  | zero =>
    obtain rfl : n = 0 := by omega
    simp [mkr]
  | succ m ih =>
    rcases Nat.lt_or_ge n (m + 1) with h1 | h1
    · rw [mkr, List.take_append_of_le_length (by rw [mkr_length h]; exact Nat.mul_le_mul_right _ (by omega))]
      exact ih (by omega)
    · obtain rfl : n = m + 1 := by omega
      rw [List.take_of_length_le (by rw [mkr_length h]; exact Nat.le_refl _)]
theorem mkr_at (h : Marks M s) (k n i t : Nat) (hi : i < n) (ht : t < s) : (mkr M k n)[i * s + t]? = (M k i)[t]? := by
  have hm : i * s + t < (i + 1) * s := by rw [Nat.add_mul]; omega
  have h1 : (mkr M k n)[i * s + t]? = (mkr M k (i + 1))[i * s + t]? := by
    rw [← mkr_take h k (i + 1) n (by omega), List.getElem?_take, if_pos hm]
  rw [h1, mkr, List.getElem?_append_right (by rw [mkr_length h]; omega), mkr_length h]
  congr 1
  omega
end
theorem below_drw {n : Nat} {w w' : World} (h : Below n w w') : Below n w w'.drew := ⟨h.os, h.tape, h.output, h.size, h.block⟩
theorem below_drwN {n : Nat} {w w' : World} (h : Below n w w') (k : Nat) : Below n w (w'.drewN k) := ⟨h.os, h.tape, h.output, h.size, h.block⟩
theorem own_slc {w : World} {base e size n : Nat} {v : Value} {xs : List Value} (h : w.ownsW base e size v n xs) : ∃ A c, v = .slice A n c ∧ n ≤ c := by
  rcases h.2 with ⟨rfl, rfl⟩ | ⟨g, cap, cur, rfl, _, _, hc, _⟩
  · exact ⟨none, 0, rfl, Nat.le_refl _⟩
  · exact ⟨_, cap, rfl, hc⟩
theorem own_type_ne {w : World} {base base' s s' n n' b : Nat} {e e' : TypeId} {v v' : Value} {xs xs' : List Value} (h : w.ownsW base e s v n xs) (h' : w.ownsW base' e' s' v' n' xs') (hne : e ≠ e') (hb : v.ownBlock = some b) : v'.ownBlock ≠ some b := by
  rcases h.2 with ⟨rfl, _⟩ | ⟨g, cap, cur, rfl, _, hg, _⟩
  · simp [Value.ownBlock] at hb
  · rcases h'.2 with ⟨rfl, _⟩ | ⟨g', cap', cur', rfl, _, hg', _⟩
    · simp [Value.ownBlock]
    · simp [Value.ownBlock] at hb ⊢
      subst hb
      rintro rfl
      rw [hg] at hg'
      injection hg' with hg'
      injection hg' with _ h2
      exact hne h2
theorem rd_new (w : World) (cs : List Value) (s : Nat) (t : TypeId) (h : cs.length = s) : RdV (w.alloc (.cells cs.toArray t)) (fun _ => True) s (some ⟨w.heap.size, 0, none⟩) 1 cs :=
  ⟨by rw [h, Nat.one_mul], fun _ => ⟨_, rfl, trivial, World.news_of_block (cs := cs.toArray) (t := t) (fr := (0, 0)) (heap_alloc_new _ _)⟩⟩
theorem rd_lit (w : World) (cs : List Value) (s n : Nat) (t : TypeId) (h : cs.length = n * s) : RdV (w.alloc (.cells cs.toArray t)) (fun b => b = w.heap.size) s (some ⟨w.heap.size, 0, none⟩) n cs :=
  ⟨h, fun _ => ⟨_, rfl, rfl, World.news_of_block (cs := cs.toArray) (t := t) (fr := (0, 0)) (heap_alloc_new _ _)⟩⟩
def two_ (a b : Value) (j : Nat) : Value := if j = 0 then a else b
/-- A list v of n elements that was handed out, and what it grew to: both bear the marks of k. -/
structure Pair (M : Nat → Nat → List Value) (w : World) (base : Nat) (e : TypeId) (s k n : Nat) (v g : Value) (m : Nat) : Prop where
  le : n ≤ m
  own : w.ownsW base e s g m (mkr M k m)
  rd : ∃ A c, v = .slice A n c ∧ (0 < n → ∃ b, A = some ⟨b, 0, none⟩) ∧ RdV w (fun b => v.ownBlock = some b) s A n (mkr M k n)
section
variable {M : Nat → Nat → List Value} {w w' : World} {base s k n m : Nat} {e : TypeId} {v g g' : Value}
theorem Pair.start (h : w.ownsW base e s v n (mkr M k n)) : Pair M w base e s k n v v n := by
  refine ⟨Nat.le_refl _, h, ?_⟩
  obtain ⟨A, c, hv, _, hr⟩ := RdV.of_own h
  refine ⟨A, c, hv, fun hn => ?_, hr⟩
  obtain ⟨b, cap, hv', _, _⟩ := h.form hn
  rw [hv] at hv'
  injection hv' with h1
  exact ⟨b, h1⟩
theorem Pair.keep {S : Nat → Prop} (h : Pair M w base e s k n v g m) (hk : Keep S w w') (h1 : ∀ b, v.ownBlock = some b → ¬ S b) (h2 : ∀ b, g.ownBlock = some b → ¬ S b) : Pair M w' base e s k n v g m := by
  obtain ⟨A, c, hv, hA, hr⟩ := h.rd
  exact ⟨h.le, hk.own h.own h2, A, c, hv, hA, hr.keep hk h1⟩
theorem Pair.next (hM : Marks M s) (h : Pair M w base e s k n v g m) (ho : w'.ownsW base e s g' (m + 1) (mkr M k m ++ M k m)) (hg : w.grownBy w' g.ownBlock)
    (ha : g'.ownBlock = g.ownBlock ∨ (g'.ownBlock = some w.heap.size ∧ w.grownBy w' none)) : Pair M w' base e s k n v g' (m + 1) := by
  obtain ⟨A, c, hv, hA, hr⟩ := h.rd
  refine ⟨by have := h.le; omega, ho, A, c, hv, hA, ?_⟩
  rcases ha with ha | ⟨_, ha⟩
  · by_cases hn : 0 < n
    · by_cases heq : v.ownBlock = g.ownBlock
      · obtain ⟨b, rfl⟩ := hA hn
        refine ⟨hr.1, fun _ => ⟨_, rfl, by rw [hv]; rfl, fun j u hu => ?_⟩⟩
        have hb : g'.ownBlock = some b := by rw [ha, ← heq, hv]; rfl
        refine ho.cells hb j u ?_
        have hj : j < n * s := by
          rcases Nat.lt_or_ge j (n * s) with h1 | h1
          · exact h1
          · rw [List.getElem?_eq_none (by rw [mkr_length hM]; exact h1)] at hu; cases hu
        have h2 := mkr_take hM k n (m + 1) (by have := h.le; omega)
        rw [← h2, List.getElem?_take, if_pos hj] at hu
        exact hu
      · exact hr.keep (Keep.of_grown hg) (fun b h1 h2 => heq (by rw [h1, h2]))
    · exact ⟨hr.1, fun h0 => absurd h0 hn⟩
  · exact hr.keep (Keep.of_grown ha) (fun b _ h2 => by cases h2)
theorem Pair.get (hM : Marks M s) (h : Pair M w base e s k n v g m) (i : Nat) (hi : i < m) : ∃ b cap, g = .slice (some ⟨b, 0, none⟩) m cap ∧ ∀ t, t < s → w.cell? ⟨b, i * s + t, none⟩ = (M k i)[t]? := by
  obtain ⟨b, cap, rfl, _, _⟩ := h.own.form (by omega)
  refine ⟨b, cap, rfl, fun t ht => ?_⟩
  rw [h.own.cellAt (i * s + t) (by have : (i + 1) * s ≤ m * s := Nat.mul_le_mul_right _ hi; rw [Nat.add_mul] at this; omega), mkr_at hM k m i t hi ht]
theorem Pair.got (hM : Marks M s) (h : Pair M w base e s k n v g m) (i : Nat) (hi : i < n) : ∃ b c, v = .slice (some ⟨b, 0, none⟩) n c ∧ ∀ t, t < s → w.cell? ⟨b, i * s + t, none⟩ = (M k i)[t]? := by
  obtain ⟨A, c, hv, hA, hr⟩ := h.rd
  obtain ⟨b, rfl⟩ := hA (by omega)
  refine ⟨b, c, hv, fun t ht => ?_⟩
  obtain ⟨ad, h1, _, hc⟩ := hr.2 (by omega)
  injection h1 with h1
  subst h1
  have hl := hM.len k i
  have h3 := mkr_at hM k n i t hi ht
  have h4 := hc (i * s + t) ((M k i)[t]'(by omega)) (by rw [h3]; exact List.getElem?_eq_getElem _)
  have hadd : (⟨b, 0, none⟩ : Addr).add (i * s + t) = ⟨b, i * s + t, none⟩ := by unfold Addr.add; split <;> simp_all
  rw [hadd] at h4
  rw [h4]
  exact (List.getElem?_eq_getElem _).symm
end
/-- A row of one's own whose first i elements bear the marks of list k. -/
def RowA (M : Nat → Nat → List Value) (w : World) (base : Nat) (e : TypeId) (s : Nat) (v : Value) (n k i : Nat) : Prop := ∃ xs, w.ownsW base e s v n xs ∧ xs.take (i * s) = mkr M k i
def Tch (V : Nat → Value) (K : Nat) (b : Nat) : Prop := ∃ j, j < K ∧ (V j).ownBlock = some b
def Fst (V : Nat → Value) (K : Nat) : Prop := ∀ i j, i < K → j < K → i ≠ j → ∀ b, (V i).ownBlock = some b → (V j).ownBlock ≠ some b
theorem two_fst {a b : Value} (h : ∀ k, a.ownBlock = some k → b.ownBlock ≠ some k) : Fst (two_ a b) 2 := by
  intro i j hi hj hij k
  have hc : (i = 0 ∧ j = 1) ∨ (i = 1 ∧ j = 0) := by omega
  rcases hc with ⟨rfl, rfl⟩ | ⟨rfl, rfl⟩
  · exact h k
  · exact fun h1 h2 => h k h2 h1
theorem two_tch {a b : Value} {k : Nat} (h : Tch (two_ a b) 2 k) : a.ownBlock = some k ∨ b.ownBlock = some k := by
  obtain ⟨j, hj, h1⟩ := h
  have hc : j = 0 ∨ j = 1 := by omega
  rcases hc with rfl | rfl
  · exact .inl h1
  · exact .inr h1
/-- While the marks are laid: k lists are done, of the next one m elements. -/
structure InvA (M : Nat → Nat → List Value) (base : Nat) (e : TypeId) (s K : Nat) (V : Nat → Value) (N : Nat → Nat) (w wr : World) (k m : Nat) : Prop where
  keep : Keep (Tch V K) w wr
  rows : ∀ j, j < K → RowA M wr base e s (V j) (N j) j (if j < k then N j else if j = k then m else 0)
section
variable {M : Nat → Nat → List Value} {base s K : Nat} {e : TypeId} {V : Nat → Value} {N : Nat → Nat} {w wr wx : World} {k m : Nat}
theorem InvA.start (h : ∀ j, j < K → ∃ xs, w.ownsW base e s (V j) (N j) xs) : InvA M base e s K V N w w 0 0 :=
  ⟨Keep.refl _ _, fun j hj => by
    obtain ⟨xs, hx⟩ := h j hj
    refine ⟨xs, hx, ?_⟩
    rw [if_neg (by omega), ite_self]
    simp [mkr]⟩
theorem InvA.row (h : InvA M base e s K V N w wr k m) (hk : k < K) : ∃ xs, wr.ownsW base e s (V k) (N k) xs ∧ xs.take (m * s) = mkr M k m := by
  have := h.rows k hk
  rw [if_neg (by omega), if_pos rfl] at this
  exact this
theorem InvA.next (hF : Fst V K) (h : InvA M base e s K V N w wr k m) (hk : k < K) (hS : Keep (fun b => (V k).ownBlock = some b) wr wx) (xs : List Value) (ho : wx.ownsW base e s (V k) (N k) xs) (ht : xs.take ((m + 1) * s) = mkr M k (m + 1)) :
    InvA M base e s K V N w wx k (m + 1) :=
  ⟨h.keep.then hS (fun b _ hb => ⟨k, hk, hb⟩), fun j hj => by
    rcases Decidable.em (j = k) with rfl | hjk
    · rw [if_neg (by omega), if_pos rfl]
      exact ⟨xs, ho, ht⟩
    · obtain ⟨ys, hy, hty⟩ := h.rows j hj
      rw [if_neg hjk] at hty ⊢
      exact ⟨ys, hS.own hy (fun b hb hb2 => hF k j hk hj (fun e => hjk e.symm) b hb2 hb), hty⟩⟩
theorem InvA.done (h : InvA M base e s K V N w wr k (N k)) : InvA M base e s K V N w wr (k + 1) 0 :=
  ⟨h.keep, fun j hj => by
    have := h.rows j hj
    by_cases h1 : j < k
    · rw [if_pos h1] at this
      rw [if_pos (by omega)]
      exact this
    · rw [if_neg h1] at this
      by_cases h2 : j = k
      · subst h2
        rw [if_pos rfl] at this
        rw [if_pos (by omega)]
        exact this
      · rw [if_neg h2] at this
        rw [if_neg (by omega), ite_self]
        exact this⟩
theorem InvA.full (h : InvA M base e s K V N w wr K 0) (j : Nat) (hj : j < K) : wr.ownsW base e s (V j) (N j) (mkr M j (N j)) := by
  obtain ⟨xs, hx, ht⟩ := h.rows j hj
  rw [if_pos hj, List.take_of_length_le (by rw [hx.1]; exact Nat.le_refl _)] at ht
  rw [← ht]
  exact hx
end
/-- While the lists are grown: k are done, G what they grew to, gs the row of these. -/
structure InvB (M : Nat → Nat → List Value) (base : Nat) (e e2 : TypeId) (s K more : Nat) (V : Nat → Value) (N : Nat → Nat) (w w0 wr : World) (k : Nat) (gs : Value) (G : Nat → Value) : Prop where
  keep : Keep (Tch V K) w wr
  size0 : w.heap.size ≤ w0.heap.size
  size : w0.heap.size ≤ wr.heap.size
  low : ∀ j, j < K → ∀ b, (V j).ownBlock = some b → b < w0.heap.size
  done : ∀ j, j < k → Pair M wr base e s j (N j) (V j) (G j) (N j + more)
  todo : ∀ j, k ≤ j → j < K → wr.ownsW base e s (V j) (N j) (mkr M j (N j))
  dis : ∀ i j, i < k → j < K → i ≠ j → ∀ b, (G i).ownBlock = some b → (V j).ownBlock ≠ some b
  dis2 : ∀ i j, i < k → j < k → i ≠ j → ∀ b, (G i).ownBlock = some b → (G j).ownBlock ≠ some b
  gs : wr.ownsW w0.heap.size e2 1 gs k ((List.range k).map G)
/-- While one list grows. -/
structure InvI (M : Nat → Nat → List Value) (base : Nat) (e : TypeId) (s k : Nat) (V : Nat → Value) (N : Nat → Nat) (wr wx : World) (g : Value) (i : Nat) : Prop where
  keep : Keep (fun b => (V k).ownBlock = some b) wr wx
  pair : Pair M wx base e s k (N k) (V k) g (N k + i)
  at_ : g.ownBlock = (V k).ownBlock ∨ ∃ b, g.ownBlock = some b ∧ wr.heap.size ≤ b
section
variable {M : Nat → Nat → List Value} {base s K more : Nat} {e e2 : TypeId} {V : Nat → Value} {N : Nat → Nat} {w w0 wr wx wy wz : World} {k i : Nat} {gs g g' : Value} {G : Nat → Value}
theorem InvB.start (h : InvA M base e s K V N w wr K 0) : InvB M base e e2 s K more V N w wr wr 0 (.slice none 0 0) G :=
  ⟨h.keep, h.keep.size, Nat.le_refl _, fun j hj b hb => own_lt (h.full j hj) b hb, fun j hj => by omega, fun j _ hj => h.full j hj, fun i j hi => by omega, fun i j hi => by omega, own_nil _ _ _ _⟩
theorem InvI.start (h : InvB M base e e2 s K more V N w w0 wr k gs G) (hk : k < K) : InvI M base e s k V N wr wr (V k) 0 :=
  ⟨Keep.refl _ _, Pair.start (h.todo k (Nat.le_refl _) hk), .inl rfl⟩
theorem InvI.below (h : InvI M base e s k V N wr wx g i) (hb : Below wx.heap.size wx wy) : InvI M base e s k V N wr wy g i :=
  ⟨h.keep.below hb, h.pair.keep (Keep.of_below hb (fun _ => False)) (fun _ _ h => h) (fun _ _ h => h), h.at_⟩
theorem InvI.next (hM : Marks M s) (h : InvI M base e s k V N wr wx g i) (ho : wy.ownsW base e s g' (N k + i + 1) (mkr M k (N k + i) ++ M k (N k + i))) (hg : wx.grownBy wy g.ownBlock)
    (ha : g'.ownBlock = g.ownBlock ∨ (g'.ownBlock = some wx.heap.size ∧ wx.grownBy wy none)) : InvI M base e s k V N wr wy g' (i + 1) := by
  refine ⟨h.keep.grown hg (fun b hb e1 => ?_), h.pair.next hM ho hg ha, ?_⟩
  · rcases h.at_ with h1 | ⟨b', h1, hb'⟩
    · rw [← h1]; exact e1
    · rw [h1] at e1
      injection e1 with e1
      omega
  · rcases ha with ha | ⟨ha, _⟩
    · rw [ha]; exact h.at_
    · exact .inr ⟨_, ha, h.keep.size⟩
theorem InvB.gsI (h : InvB M base e e2 s K more V N w w0 wr k gs G) (hk : k < K) (hi : InvI M base e s k V N wr wx g i) : wx.ownsW w0.heap.size e2 1 gs k ((List.range k).map G) :=
  hi.keep.own h.gs (fun b hb hb2 => by have := own_ge h.gs b hb; have := h.low k hk b hb2; omega)
theorem InvB.next (hne : e ≠ e2) (hF : Fst V K) (h : InvB M base e e2 s K more V N w w0 wr k gs G) (hk : k < K) (hi : InvI M base e s k V N wr wx g more)
    (ho : wz.ownsW w0.heap.size e2 1 g' (k + 1) ((List.range k).map G ++ [g])) (hg : Keep (fun b => gs.ownBlock = some b) wx wz) :
    InvB M base e e2 s K more V N w w0 wz (k + 1) g' (fun j => if j = k then g else G j) := by
  have hgx := hi.keep.own h.gs (fun b hb hb2 => by have := own_ge h.gs b hb; have := h.low k hk b hb2; omega)
  have hgl : ∀ j, j < K → ∀ b, (V j).ownBlock = some b → gs.ownBlock ≠ some b := fun j hj b hb hb2 => by
    have := own_ge h.gs b hb2
    have := h.low j hj b hb
    omega
  have hGV : ∀ j, j < k → ∀ b, (G j).ownBlock = some b → (V k).ownBlock ≠ some b := fun j hj b hb => h.dis j k hj hk (by omega) b hb
  have hgV : ∀ j, j < K → j ≠ k → ∀ b, g.ownBlock = some b → (V j).ownBlock ≠ some b := fun j hj hjk b hb hb2 => by
    rcases hi.at_ with h1 | ⟨b', h1, hb'⟩
    · rw [h1] at hb
      exact hF k j hk hj (fun e => hjk e.symm) b hb hb2
    · rw [hb] at h1
      injection h1 with h1
      have := h.low j hj b hb2
      have := h.size
      omega
  have hgG : ∀ j, j < k → ∀ b, g.ownBlock = some b → (G j).ownBlock ≠ some b := fun j hj b hb hb2 => by
    rcases hi.at_ with h1 | ⟨b', h1, hb'⟩
    · rw [h1] at hb
      exact hGV j hj b hb2 hb
    · rw [hb] at h1
      injection h1 with h1
      have := own_lt (h.done j hj).own b hb2
      omega
  refine ⟨?_, h.size0, ?_, h.low, fun j hj => ?_, fun j hj hjK => ?_, fun i j hi hj hij b => ?_, fun i j hi hj hij b => ?_, ?_⟩
  · refine (h.keep.then hi.keep (fun b _ hb => ⟨k, hk, hb⟩)).then hg (fun b hb hb2 => ?_)
    have h1 := own_ge h.gs b hb2
    exfalso
    have h2 := h.size0
    omega
  · have h1 := h.size
    have h2 := hi.keep.size
    have h3 := hg.size
    omega
  · rcases Decidable.em (j = k) with rfl | hjk
    · rw [if_pos rfl]
      exact hi.pair.keep hg (fun b hb hb2 => hgl j hk b hb hb2) (fun b hb hb2 => own_type_ne hi.pair.own hgx hne hb hb2)
    · rw [if_neg hjk]
      have hjk' : j < k := by omega
      have h1 := (h.done j hjk').keep hi.keep (fun b hb hb2 => hF j k (by omega) hk hjk b hb hb2) (fun b hb hb2 => hGV j hjk' b hb hb2)
      exact h1.keep hg (fun b hb hb2 => hgl j (by omega) b hb hb2) (fun b hb hb2 => own_type_ne h1.own hgx hne hb hb2)
  · have h1 := hi.keep.own (h.todo j (by omega) hjK) (fun b hb hb2 => hF j k hjK hk (by omega) b hb hb2)
    exact hg.own h1 (fun b hb hb2 => hgl j hjK b hb hb2)
  · rcases Decidable.em (i = k) with rfl | hik
    · rw [if_pos rfl]
      exact hgV j hj (fun e => hij e.symm) b
    · rw [if_neg hik]
      exact h.dis i j (by omega) hj hij b
  · by_cases hik : i = k
    · subst hik
      rw [if_pos rfl, if_neg (fun e => hij e.symm)]
      exact hgG j (by omega) b
    · rw [if_neg hik]
      by_cases hjk : j = k
      · subst hjk
        rw [if_pos rfl]
        exact fun h1 h2 => hgG i (by omega) b h2 h1
      · rw [if_neg hjk]
        exact h.dis2 i j (by omega) (by omega) hij b
  · rw [List.range_succ, List.map_append]
    simp only [List.map_cons, List.map_nil, if_pos rfl]
    rw [List.map_congr_left (g := G) (fun a ha => if_neg (by have := List.mem_range.1 ha; omega))]
    exact ho
end
end Aps
end Go.Proofs.YtihgmlcmdpmhhaaDoor
/- Lists of Bytes that were handed out lie apart: walked. -/
namespace Go.Proofs.YtihgmlcmdpmhhaaDoor
set_option linter.unusedVariables false
set_option linter.unusedSimpArgs false
namespace AptBytes
open Go.RowKit Mem Aps Wire
def mkB (k i : Nat) : List Value := [.int .u8 (Kit.mark k i)]
theorem mkB_marks : Marks mkB 1 := ⟨fun _ _ => rfl, fun _ _ u hu => by simp [mkB] at hu; subst hu; rfl⟩
theorem mkB_add (k n m : Nat) : mkB k (n + m) = [.int .u8 (Kit.mark k ((n : Int) + (m : Int)))] := by
  simp [mkB]
theorem info_rows : (Tryd.prog.info? 22).map (fun i => (i.zero, i.size, i.bytes)) = some (some (.slice none 0 0), 1, 24) := by kernel_rfl
theorem far1 {w : World} {a p : Addr} {u v : Value} (hne : a.block ≠ p.block) (h : w.cell? a = some v) : (w.setCell p u).cell? a = some v := by
  rw [World.cell?_of_block (Below.heap_setCell w p u a.block hne)]
  exact h
theorem own_one {w : World} {base n g cap i : Nat} {e : TypeId} {xs : List Value} (h : w.ownsW base e 1 (.slice (some ⟨g, 0, none⟩) n cap) n xs) (hi : i < n) (a : Value) :
    (w.setCell ⟨g, i, none⟩ a).ownsW base e 1 (.slice (some ⟨g, 0, none⟩) n cap) n (xs.set i a) ∧ (xs.set i a).take ((i + 1) * 1) = xs.take (i * 1) ++ [a] := by
  refine ⟨(h.stored i a).1, ?_⟩
  have hl := h.1
  rw [Nat.mul_one, Nat.mul_one, List.take_succ_eq_append_getElem (by simp; omega), List.take_set_of_le (Nat.le_refl _)]
  simp
set_option maxHeartbeats 2000000 in
set_option maxRecDepth 100000 in
theorem apart_in (base K : Nat) (A : Option Addr) (c : Nat) (V : Nat → Value) (N : Nat → Nat) (okO : Nat → Prop) (w : World) (hr : RdV w okO 1 A K ((List.range K).map V)) (hbase : base ≤ w.heap.size)
    (hV : ∀ j, j < K → ∃ xs, w.ownsW base 5 1 (V j) (N j) xs) (hF : Fst V K) (hO : ∀ b, Tch V K b → ¬ okO b) (hK : K ≤ 1000000) (hN : ∀ j, N j ≤ 1000000000000) :
    Calls Tryd.prog 11 #[.slice A K c] w fun e w' => e = .returned (.bool true) ∧ Keep (Tch V K) w w' := by
  have Hr := Held.mk hr
  have HV := Held.mk hV
  have HF := Held.mk hF
  have HO := Held.mk hO
  have HN := Held.mk hN
  have HK := Held.mk hK
  have HBs := Held.mk hbase
  have HAt : Held (∀ k, k < K → ∃ ad : Addr, A = some ad ∧ okO (ad.add k).block ∧ ∀ wr, Keep (Tch V K) w wr → wr.cell? (ad.add k) = some (V k)) := ⟨fun k hk => by
    obtain ⟨ad, e, hb, hc⟩ := hr.2 (by omega)
    refine ⟨ad, e, by rw [block_of_add]; exact hb, fun wr hkp => hkp.cell (hc k _ (by simp [hk])) (fun h => hO _ h (by rw [block_of_add]; exact hb))⟩⟩
  have hKI : (K : Int) ≤ 1000000 := by omega
  clear hr hV hF hO hN hK hbase
  go_enter Tryd.func11, Tryd.ntmps11
  go_wp2_with fail
  go_loopw [3] (fun i wr => ∃ (k : Nat), i = .int .i64 k ∧ k ≤ K ∧ Held (InvA mkB base 5 1 K V N w wr k 0)) (fun i _ => K - (intOf i).toNat)
  case atStart => exact ⟨0, rfl, Nat.zero_le _, ⟨InvA.start HV.out⟩⟩
  case round =>
    obtain ⟨k, rfl, hk, HIA⟩ := hrel
    by_cases hlt : k < K
    · obtain ⟨ad, rfl, hokb, hcc⟩ := HAt.out k hlt
      have HC := Held.mk hcc
      have HNO : Held (∀ b, (V k).ownBlock = some b → (ad.add k).block ≠ b) := ⟨fun b hb e => HO.out b ⟨k, hlt, hb⟩ (e ▸ hokb)⟩
      obtain ⟨Ak, ck, ek, _⟩ := own_slc (HIA.out.row hlt).choose_spec.1
      rw [ek] at HC HNO
      have HE := Held.mk ek
      have hc0 := HC.out _ HIA.out.keep
      have hNk : (N k : Int) ≤ 1000000000000 := by have := HN.out k; omega
      clear hcc ek hokb
      go_wp2_with fail
      clear hc0
      go_loopw [4] (fun i wr => ∃ (m : Nat), i = .int .i64 m ∧ m ≤ N k ∧ Held (InvA mkB base 5 1 K V N w wr k m)) (fun i _ => N k - (intOf i).toNat)
      case atStart => exact ⟨0, rfl, Nat.zero_le _, HIA⟩
      case round =>
        clear HIA
        obtain ⟨m, rfl, hm, HIB⟩ := hrel
        have hc0 := HC.out _ HIB.out.keep
        by_cases hlm : m < N k
        · obtain ⟨xs, ho, ht⟩ := HIB.out.row hlt
          rw [HE.out] at ho
          obtain ⟨g, cap, hv, _, _⟩ := ho.form (show 0 < N k by omega)
          injection hv with hv1 hv2 hv3
          subst hv1
          subst hv3
          have hl := ho.1
          have HTk := Held.mk ht
          have HOk := Held.mk ho
          have HCl : Held (∃ u, ∀ w', Below wr.heap.size wr w' → w'.cell? ⟨g, m, none⟩ = some u ∧ w'.frozen? ⟨g, m, none⟩ = false) := ⟨by
            refine ⟨xs[m]'(by omega), fun w' hb => ?_⟩
            have ho2 := (Keep.of_below hb (fun _ => False)).own HOk.out (fun _ _ h => h)
            exact ⟨(ho2.cellAt m (by omega)).trans (List.getElem?_eq_getElem _), ho2.frozenAt _⟩⟩
          obtain ⟨u0, h0⟩ := HCl.out
          have H0 := Held.mk h0
          have HMk : Held (∀ W, Calls Tryd.prog 24 #[.int .i64 k, .int .i64 m] W fun e w' => e = .returned (.int .u8 (Kit.mark k m)) ∧ W = w') := ⟨fun W => Kit.mark_any k _ W (by have := HK.out; omega) (by omega) (by omega)⟩
          have HNE : Held ((ad.add k).block ≠ g) := ⟨HNO.out g rfl⟩
          obtain ⟨c0, f0⟩ := H0.out _ (Below.refl _ _)
          clear h0 ho ht hl
          go_wp2_with fail
          go_region_held3 (fun w' => w'.cell? (ad.add k) = some (.slice (some ⟨g, 0, none⟩) (N k) ck)) (first | (refine far1 (by exact HNE.out) ?_; assumption) | go_keep)
            ((go_at_call 24; refine (HMk.out _).mono ?_; rintro e w2 ⟨rfl, rfl⟩))
          obtain ⟨hys, hty⟩ := own_one HOk.out hlm (.int .u8 (Kit.mark k m))
          have HN5 : Held (InvA mkB base 5 1 K V N w ((wr.setCell ⟨g, m, none⟩ (.int .u8 (Kit.mark k m))).drew) k (m + 1)) := ⟨HIB.out.next HF.out hlt (((Keep.refl (fun b => (V k).ownBlock = some b) wr).setCell (p := ⟨g, m, none⟩) (fun _ => by rw [HE.out]; rfl) (.int .u8 (Kit.mark k m))).drew) _ (by rw [HE.out]; exact hys) (by rw [hty, HTk.out]; rfl)⟩
          clear hys hty c0 f0
          go_wp2_with fail
          go_roundw
          case rel => exact ⟨m + 1, by go_num, by omega, HN5⟩
          case measure => simp [intOf]; omega
        · have hme : m = N k := by omega
          subst hme
          go_wp2_with fail
          go_roundw
          case rel => exact ⟨k + 1, by go_num, by omega, ⟨HIB.out.done⟩⟩
          case measure => simp [intOf]; omega
    · obtain rfl : K = k := by omega
      have HB0 : ∃ W0, Held (InvB mkB base 5 22 1 K 64 V N w W0 wr 0 (.slice none 0 0) V) := ⟨wr, ⟨InvB.start HIA.out⟩⟩
      obtain ⟨W0, HB0⟩ := HB0
      clear HIA
      go_wp2_with fail
      go_loopw [5, 6] (fun gs i wr => ∃ (k : Nat) (G : Nat → Value), i = .int .i64 k ∧ k ≤ K ∧ Held (InvB mkB base 5 22 1 K 64 V N w W0 wr k gs G)) (fun _ i _ => K - (intOf i).toNat)
      case atStart => exact ⟨0, V, rfl, Nat.zero_le _, HB0⟩
      case round =>
        clear HB0
        obtain ⟨k, G, rfl, hk2, HIB⟩ := hrel
        obtain ⟨As, cs, rfl, _⟩ := own_slc HIB.out.gs
        by_cases hlt2 : k < K
        · obtain ⟨ad, rfl, hokb, hcc⟩ := HAt.out k hlt2
          obtain ⟨Ak, ck, ek, _⟩ := own_slc (HIB.out.todo k (Nat.le_refl _) hlt2)
          have HC : Held (∀ wy, Keep (fun b => (V k).ownBlock = some b) wr wy → wy.cell? (ad.add k) = some (.slice Ak (N k) ck)) := ⟨fun wy hy => by
            rw [← ek]
            exact hcc wy (HIB.out.keep.then hy (fun b _ hb => ⟨k, hlt2, hb⟩))⟩
          have HI0 := Held.mk (InvI.start HIB.out hlt2)
          rw [ek] at HI0
          have hc0 := HC.out _ (Keep.refl _ _)
          have HBw : Held (base ≤ wr.heap.size) := ⟨by have := HBs.out; have := HIB.out.keep.size; omega⟩
          have HGI : Held (∀ wx g i, InvI mkB base 5 1 k V N wr wx g i → wx.ownsW W0.heap.size 22 1 (.slice As k cs) k ((List.range k).map G)) := ⟨fun wx g i hi => HIB.out.gsI hlt2 hi⟩
          have HSz : Held (W0.heap.size ≤ wr.heap.size) := ⟨HIB.out.size⟩
          clear hcc ek hokb
          go_wp2_with fail
          clear hc0
          go_loopw [7, 8] (fun g i wy => ∃ (m : Nat), i = .int .i64 m ∧ m ≤ 64 ∧ Held (InvI mkB base 5 1 k V N wr wy g m)) (fun _ i _ => 64 - (intOf i).toNat)
          case atStart => exact ⟨0, rfl, by omega, HI0⟩
          case round =>
            clear HI0
            obtain ⟨m, rfl, hm, HI⟩ := hrel
            obtain ⟨Ag, cg, rfl, _⟩ := own_slc HI.out.pair.own
            have hNk : (N k : Int) ≤ 1000000000000 := by have := HN.out k; omega
            by_cases hlm : m < 64
            · have hc0 := HC.out _ HI.out.keep
              have HMk : Held (∀ W, Calls Tryd.prog 24 #[.int .i64 k, .int .i64 ((N k : Int) + (m : Int))] W fun e w' => e = .returned (.int .u8 (Kit.mark k ((N k : Int) + (m : Int)))) ∧ W = w') := ⟨fun W => Kit.mark_any k _ W (by have := HK.out; omega) (by omega) (by omega)⟩
              have HC3 : Held (((N k + m + 1) + (N k + m + 1) / 4 + 192) * 1 ≤ 281474976710656) := ⟨by have := HN.out k; omega⟩
              have HI2 := Held.mk (HI.out.below ((Below.refl _ _).alloc (Nat.le_refl _) (.cells #[.int .u8 (Kit.mark k ((N k : Int) + (m : Int)))] 5)))
              have HRd : Held (RdV (wr.alloc (.cells #[.int .u8 (Kit.mark k ((N k : Int) + (m : Int)))] 5)) (fun _ => True) 1 (some ⟨wr.heap.size, 0, none⟩) 1 (mkB k (N k + m))) := ⟨by rw [mkB_add]; exact rd_new wr _ 1 _ rfl⟩
              have HC4 : Held (base ≤ (wr.alloc (.cells #[.int .u8 (Kit.mark k ((N k : Int) + (m : Int)))] 5)).heap.size) := ⟨Nat.le_trans HBw.out HI2.out.keep.size⟩
              go_wp2_with (first
                | (go_at_call 24; refine (HMk.out _).mono ?_; rintro e w2 ⟨rfl, rfl⟩)
                | ((at_builtin; go_loud (refine appT base rfl (.tmp 50) (.tmp 60) 22 5 (.int .u8 0) 1 1 rfl Tryd.underlying22 info_u8 rfl (by decide) (by decide) _ (N k + m) (mkr mkB k (N k + m)) rfl HI2.out.pair.own (fun _ => True) (some ⟨wr.heap.size, 0, none⟩) 1 1 (mkB k (N k + m)) rfl HRd.out (mkB_marks.one _ _) HC3.out HC4.out ?_)); (intro v2 w3 ho3 hg3 hat3); (have HI3 := Held.mk (HI2.out.next mkB_marks ho3 hg3 hat3)); (clear ho3 hg3 hat3)))
              go_roundw
              case rel => exact ⟨m + 1, by go_num, by omega, ⟨HI3.out⟩⟩
              case measure => simp [intOf]; omega
            · obtain rfl : m = 64 := by omega
              have HGal : Held ((wr.alloc (.cells #[.slice Ag (N k + 64) cg] 22)).ownsW W0.heap.size 22 1 (.slice As k cs) k ((List.range k).map G)) := ⟨(HGI.out _ _ _ HI.out).alloc _⟩
              have HRd := Held.mk (rd_new wr [.slice Ag (N k + 64) cg] 1 22 rfl)
              have HC3 : Held (((k + 1) + (k + 1) / 4 + 192) * 24 ≤ 281474976710656) := ⟨by have := HK.out; omega⟩
              have HC4 : Held (W0.heap.size ≤ (wr.alloc (.cells #[.slice Ag (N k + 64) cg] 22)).heap.size) := ⟨by have h1 := HSz.out; have h2 := HI.out.keep.size; simp; omega⟩
              go_wp2_with ((at_builtin; go_loud (refine appS _ W0.heap.size rfl (.tmp 62) (.tmp 64) 24 22 (.slice none 0 0) 1 24 rfl Tryd.underlying24 info_rows rfl (by decide) (by decide) _ k ((List.range k).map G) rfl HGal.out (fun _ => True) (some ⟨wr.heap.size, 0, none⟩) 1 1 [.slice Ag (N k + 64) cg] rfl HRd.out (by simp [Value.oneCell']) HC3.out HC4.out ?_)); (intro v2 w3 ho3 hg3 hat3); (have HN3 := Held.mk (HIB.out.next (by decide) HF.out hlt2 HI.out ho3 (((Keep.refl _ _).alloc _).grown hg3 (fun b _ e => e)))); (clear ho3 hg3 hat3))
              go_roundw
              case rel => exact ⟨k + 1, _, by go_num, by omega, ⟨HN3.out⟩⟩
              case measure => simp [intOf]; omega
        · obtain rfl : K = k := by omega
          have HWB : ∃ WB, Held (InvB mkB base 5 22 1 K 64 V N w W0 WB K (.slice As K cs) G) ∧ Held (Below WB.heap.size WB wr) := ⟨wr, HIB, ⟨Below.refl _ _⟩⟩
          clear HIB
          obtain ⟨WB, HIB, HBe⟩ := HWB
          go_wp2_with fail
          go_loopw [9] (fun i wr => ∃ (k : Nat), i = .int .i64 k ∧ k ≤ K ∧ Held (Below WB.heap.size WB wr)) (fun i _ => K - (intOf i).toNat)
          case atStart => exact ⟨0, rfl, Nat.zero_le _, HBe⟩
          case round =>
            clear HBe
            obtain ⟨k, rfl, hk3, HBw⟩ := hrel
            by_cases hlt3 : k < K
            · obtain ⟨ad, rfl, hokb, hcc⟩ := HAt.out k hlt3
              have HPr := Held.mk (HIB.out.done k hlt3)
              obtain ⟨Ak, ck, ek, _⟩ := HPr.out.rd
              obtain ⟨Ag, cg, eG, _⟩ := own_slc HPr.out.own
              obtain ⟨g0, cap0, e0, _, _⟩ := HIB.out.gs.form (by omega)
              injection e0 with e1 _ e3
              subst e1
              have HCv : Held (∀ w', Below WB.heap.size WB w' → w'.cell? (ad.add k) = some (.slice Ak (N k) ck)) := ⟨fun w' hb => by
                rw [← ek]
                exact hcc w' (HIB.out.keep.below hb)⟩
              have HCg : Held (∀ w', Below WB.heap.size WB w' → w'.cell? ⟨g0, k, none⟩ = some (.slice Ag (N k + 64) cg)) := ⟨fun w' hb => by
                have h1 := (Keep.of_below hb (fun _ => False)).own HIB.out.gs (fun _ _ h => h)
                rw [h1.cellAt k (by omega), ← eG]
                simp [hlt3]⟩
              have HPg : Held (∀ m, m < N k + 64 → ∃ b, Ag = some ⟨b, 0, none⟩ ∧ ∀ w', Below WB.heap.size WB w' → w'.cell? ⟨b, m, none⟩ = some (.int .u8 (Kit.mark k m))) := ⟨fun m hm => by
                obtain ⟨b, cap, h1, h2⟩ := HPr.out.get mkB_marks m hm
                rw [eG] at h1
                injection h1 with h3
                refine ⟨b, h3, fun w' hb => ?_⟩
                have h5 := h2 0 (by omega)
                rw [Nat.mul_one, Nat.add_zero] at h5
                exact (Keep.of_below hb (fun _ => False)).cell h5 (fun h => h)⟩
              have HPv : Held (∀ m, m < N k → ∃ b, Ak = some ⟨b, 0, none⟩ ∧ ∀ w', Below WB.heap.size WB w' → w'.cell? ⟨b, m, none⟩ = some (.int .u8 (Kit.mark k m))) := ⟨fun m hm => by
                obtain ⟨b, cap, h1, h2⟩ := HPr.out.got mkB_marks m hm
                rw [ek] at h1
                injection h1 with h3
                refine ⟨b, h3, fun w' hb => ?_⟩
                have h5 := h2 0 (by omega)
                rw [Nat.mul_one, Nat.add_zero] at h5
                exact (Keep.of_below hb (fun _ => False)).cell h5 (fun h => h)⟩
              have hNk : (N k : Int) ≤ 1000000000000 := by have := HN.out k; omega
              have hcg := HCg.out _ HBw.out
              clear hcc ek eG hokb e3
              go_wp2_with fail
              clear hcg
              go_loopw [10] (fun i wr => ∃ (m : Nat), i = .int .i64 m ∧ m ≤ N k + 64 ∧ Held (Below WB.heap.size WB wr)) (fun i _ => N k + 64 - (intOf i).toNat)
              case atStart => exact ⟨0, rfl, by omega, HBw⟩
              case round =>
                clear HBw
                obtain ⟨m, rfl, hm, HBx⟩ := hrel
                have hcg := HCg.out _ HBx.out
                have hcv := HCv.out _ HBx.out
                by_cases hlm : m < N k + 64
                · obtain ⟨bg, rfl, hfg⟩ := HPg.out m hlm
                  have HMk : Held (∀ W, Calls Tryd.prog 24 #[.int .i64 k, .int .i64 m] W fun e w' => e = .returned (.int .u8 (Kit.mark k m)) ∧ W = w') := ⟨fun W => Kit.mark_any k _ W (by have := HK.out; omega) (by omega) (by omega)⟩
                  have g0 := hfg _ HBx.out
                  by_cases hin : m < N k
                  · obtain ⟨bv, rfl, hfv⟩ := HPv.out m hin
                    have v0 := hfv _ HBx.out
                    have hinI : (m : Int) < (N k : Int) := by omega
                    clear hfg hfv
                    generalize Kit.mark k (m : Int) = mv at *
                    go_wp2_with ((go_at_call 24; refine (HMk.out _).mono ?_; rintro e w2 ⟨rfl, rfl⟩))
                    skip
                    go_roundw
                    case rel => exact ⟨m + 1, by go_num, by omega, HBx⟩
                    case measure => simp [intOf]; omega
                  · have hinI : ¬ (m : Int) < (N k : Int) := by omega
                    clear hfg
                    generalize Kit.mark k (m : Int) = mv at *
                    go_wp2_with ((go_at_call 24; refine (HMk.out _).mono ?_; rintro e w2 ⟨rfl, rfl⟩))
                    skip
                    go_roundw
                    case rel => exact ⟨m + 1, by go_num, by omega, HBx⟩
                    case measure => simp [intOf]; omega
                · obtain rfl : m = N k + 64 := by omega
                  go_wp2_with fail
                  go_roundw
                  case rel => exact ⟨k + 1, by go_num, by omega, HBx⟩
                  case measure => simp [intOf]; omega
            · go_wp2_with fail
              go_ret
              exact ⟨rfl, HIB.out.keep.below HBw.out⟩
end AptBytes
end Go.Proofs.YtihgmlcmdpmhhaaDoor
