/- Order: the plain part (no walk): who waits for how many, who is behind, who is best, the order. -/
import Derived.Test.YtgmanmbicoofgaaDoorRows
namespace Go.Proofs.YtgmanmbicoofgaaDoor
set_option linter.unusedVariables false
set_option linter.unusedSimpArgs false
namespace Ord
/-- A row of numbers, told by its places. -/
def row {α : Type} (n : Nat) (f : Nat → α) : List α := (List.range n).map f
theorem row_len {α : Type} (n : Nat) (f : Nat → α) : (row n f).length = n := by simp [row]
theorem row_at {α : Type} (n : Nat) (f : Nat → α) (i : Nat) : (row n f)[i]? = if i < n then some (f i) else none := by
  unfold row
  by_cases h : i < n
  · rw [if_pos h, List.getElem?_map, List.getElem?_eq_getElem (by simpa using h)]
    simp
  · rw [if_neg h, List.getElem?_eq_none (by simpa using h)]
theorem row_ext {α : Type} {n : Nat} {f : Nat → α} {l : List α} (hl : l.length = n) (h : ∀ i, i < n → l[i]? = some (f i)) : l = row n f := by
  apply List.ext_getElem?
  intro i
  rw [row_at]
  by_cases hi : i < n
  · rw [if_pos hi, h i hi]
  · rw [if_neg hi, List.getElem?_eq_none (by omega)]
theorem row_set {α : Type} {n : Nat} {f g : Nat → α} {x : Nat} {v : α} (hx : x < n) (hv : g x = v) (ho : ∀ y, y < n → y ≠ x → g y = f y) : (row n f).set x v = row n g := by
  refine row_ext (by simp [row_len]) (fun i hi => ?_)
  rw [List.getElem?_set, row_len]
  by_cases h : x = i
  · subst h
    rw [if_pos rfl, if_pos hx, hv]
  · rw [if_neg h, row_at, if_pos hi, ho i hi (fun e => h e.symm)]
/-- How many edges lead to x from things that do not stand yet. -/
def cnt (E : List (Nat × Nat)) (o : List Nat) (x : Nat) : Nat := E.countP (fun e => e.2 == x && !o.contains e.1)
/-- What stands behind x. -/
def beh (E : List (Nat × Nat)) (x : Nat) : List Nat := (E.filter (fun e => e.1 == x)).map (·.2)
theorem cnt_le (E : List (Nat × Nat)) (o : List Nat) (x : Nat) : cnt E o x ≤ E.length := List.countP_le_length
theorem beh_snoc (E : List (Nat × Nat)) (e : Nat × Nat) (x : Nat) : beh (E ++ [e]) x = beh E x ++ if e.1 = x then [e.2] else [] := by
  unfold beh
  rw [List.filter_append, List.map_append]
  by_cases h : e.1 = x
  · simp [h]
  · simp [h]
theorem beh_len (E : List (Nat × Nat)) (x : Nat) : (beh E x).length ≤ E.length := by
  unfold beh
  rw [List.length_map]
  exact List.length_filter_le _ _
theorem beh_mem {E : List (Nat × Nat)} {x y : Nat} (h : y ∈ beh E x) : (x, y) ∈ E := by
  unfold beh at h
  simp only [List.mem_map, List.mem_filter, beq_iff_eq] at h
  obtain ⟨⟨a, b⟩, ⟨h1, h2⟩, h3⟩ := h
  subst h2
  subst h3
  exact h1
theorem cnt_snoc (E : List (Nat × Nat)) (e : Nat × Nat) (x : Nat) : cnt (E ++ [e]) [] x = cnt E [] x + if e.2 = x then 1 else 0 := by
  unfold cnt
  rw [List.countP_append]
  by_cases h : e.2 = x
  · simp [h]
  · simp [h]
theorem cnt_put (E : List (Nat × Nat)) (o : List Nat) (b x : Nat) (hb : b ∉ o) : cnt E o x = cnt E (o ++ [b]) x + (beh E b).count x := by
  induction E with
  | nil => rfl
  | cons e E ih =>
    have h1 : cnt (e :: E) o x = cnt E o x + if e.2 == x && !o.contains e.1 then 1 else 0 := by unfold cnt; rw [List.countP_cons]
    have h2 : cnt (e :: E) (o ++ [b]) x = cnt E (o ++ [b]) x + if e.2 == x && !(o ++ [b]).contains e.1 then 1 else 0 := by unfold cnt; rw [List.countP_cons]
    have h3 : (beh (e :: E) b).count x = (beh E b).count x + if e.1 = b ∧ e.2 = x then 1 else 0 := by
      unfold beh
      by_cases h : e.1 = b
      · by_cases h' : e.2 = x
        · simp [h, h']
        · simp [h, h']
      · simp [h]
    rw [h1, h2, h3, ih]
    by_cases hx : e.2 = x
    · by_cases he : e.1 = b
      · have : e.1 ∉ o := by rw [he]; exact hb
        simp [hx, he, hb]
        omega
      · by_cases hm : e.1 ∈ o
        · simp [hx, he, hm]
        · simp [hx, he, hm]
          omega
    · simp [hx]
/-- The best of the first k. -/
def bst (ok : Nat → Bool) (p : Nat → Int) : Nat → Int
  | 0 => -1
  | k + 1 => if ok k && (decide (bst ok p k < 0) || decide (p k > p (bst ok p k).toNat)) then (k : Int) else bst ok p k
theorem bst_bound (ok : Nat → Bool) (p : Nat → Int) (k : Nat) : bst ok p k = -1 ∨ ∃ b, b < k ∧ bst ok p k = (b : Nat) ∧ ok b = true := by
  induction k with
  | zero => exact .inl rfl
  | succ k ih =>
    by_cases h : (ok k && (decide (bst ok p k < 0) || decide (p k > p (bst ok p k).toNat))) = true
    · rw [bst, if_pos h]
      refine .inr ⟨k, by omega, rfl, ?_⟩
      simp only [Bool.and_eq_true] at h
      exact h.1
    · rw [bst, if_neg h]
      rcases ih with h1 | ⟨b, h1, h2, h3⟩
      · exact .inl h1
      · exact .inr ⟨b, by omega, h2, h3⟩
theorem bst_yes {ok : Nat → Bool} {p : Nat → Int} {k : Nat} (h1 : ok k = true) (h2 : bst ok p k < 0 ∨ p k > p (bst ok p k).toNat) : bst ok p (k + 1) = k := by
  rw [bst, if_pos]
  simp [h1]
  exact h2
theorem bst_no1 {ok : Nat → Bool} {p : Nat → Int} {k : Nat} (h1 : ok k = false) : bst ok p (k + 1) = bst ok p k := by
  rw [bst, if_neg]
  simp [h1]
theorem bst_no2 {ok : Nat → Bool} {p : Nat → Int} {k : Nat} (h1 : ¬ bst ok p k < 0) (h2 : ¬ p k > p (bst ok p k).toNat) : bst ok p (k + 1) = bst ok p k := by
  rw [bst, if_neg]
  simp
  intro _
  omega
/-- Who may come next. -/
def may (E : List (Nat × Nat)) (o : List Nat) (i : Nat) : Bool := !o.contains i && cnt E o i == 0
/-- Who comes next; -1: none. -/
def next (E : List (Nat × Nat)) (p : Nat → Int) (n : Nat) (o : List Nat) : Int := bst (may E o) p n
theorem next_cases (E : List (Nat × Nat)) (p : Nat → Int) (n : Nat) (o : List Nat) : next E p n o = -1 ∨ ∃ b, b < n ∧ next E p n o = (b : Nat) ∧ b ∉ o := by
  rcases bst_bound (may E o) p n with h | ⟨b, h1, h2, h3⟩
  · exact .inl h
  · refine .inr ⟨b, h1, h2, ?_⟩
    simp [may] at h3
    exact h3.1
/-- The order: so many rounds more behind o. -/
def runs (E : List (Nat × Nat)) (p : Nat → Int) (n : Nat) : Nat → List Nat → List Nat
  | 0, o => o
  | k + 1, o => if next E p n o < 0 then o else runs E p n k (o ++ [(next E p n o).toNat])
def ord (E : List (Nat × Nat)) (p : Nat → Int) (n : Nat) : List Nat := runs E p n n []
theorem runs_end {E : List (Nat × Nat)} {p : Nat → Int} {n k : Nat} {o : List Nat} (h : next E p n o < 0) : runs E p n k o = o := by
  cases k with
  | zero => rfl
  | succ k => rw [runs, if_pos h]
theorem runs_next {E : List (Nat × Nat)} {p : Nat → Int} {n k b : Nat} {o : List Nat} (h : next E p n o = (b : Nat)) : runs E p n (k + 1) o = runs E p n k (o ++ [b]) := by
  rw [runs, if_neg (by omega), h]
  rfl
end Ord
end Go.Proofs.YtgmanmbicoofgaaDoor
