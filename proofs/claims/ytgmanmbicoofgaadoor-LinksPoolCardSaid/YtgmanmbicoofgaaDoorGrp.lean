/- Groups: the plain part (no walk): a forest's roots, what a join makes of them, the least of each group. -/
import Derived.Test.YtgmanmbicoofgaaDoorRows
namespace Go.Proofs.YtgmanmbicoofgaaDoor
set_option linter.unusedVariables false
set_option linter.unusedSimpArgs false
namespace Grp
/-- Each thing's one is not above it. -/
def Frst (F : List Nat) : Prop := ∀ i, F.getD i 0 ≤ i
/-- The least thing that is reached. -/
def root (F : List Nat) (i : Nat) : Nat := if h : F.getD i 0 < i then root F (F.getD i 0) else i
termination_by i
theorem root_lt {F : List Nat} {i : Nat} (h : F.getD i 0 < i) : root F i = root F (F.getD i 0) := by
  rw [root, dif_pos h]
theorem root_ge {F : List Nat} {i : Nat} (h : ¬ F.getD i 0 < i) : root F i = i := by
  rw [root, dif_neg h]
theorem root_le (F : List Nat) (i : Nat) : root F i ≤ i := by
  induction i using Nat.strongRecOn with
  | _ i ih =>
    by_cases h : F.getD i 0 < i
    · rw [root_lt h]
      have := ih _ h
      omega
    · rw [root_ge h]
      exact Nat.le_refl _
theorem root_fix {F : List Nat} (hF : Frst F) (i : Nat) : F.getD (root F i) 0 = root F i := by
  induction i using Nat.strongRecOn with
  | _ i ih =>
    by_cases h : F.getD i 0 < i
    · rw [root_lt h]
      exact ih _ h
    · rw [root_ge h]
      have := hF i
      omega
theorem root_step {F : List Nat} (hF : Frst F) (i : Nat) : root F (F.getD i 0) = root F i := by
  by_cases h : F.getD i 0 < i
  · rw [root_lt h]
  · have := hF i
    rw [show F.getD i 0 = i by omega]
theorem getD_set (F : List Nat) (x v i : Nat) : (F.set x v).getD i 0 = if i = x ∧ x < F.length then v else F.getD i 0 := by
  simp only [List.getD_eq_getElem?_getD, List.getElem?_set]
  by_cases h : x = i
  · subst h
    by_cases h2 : x < F.length
    · simp [h2]
    · simp [h2]
  · simp [h, show ¬ i = x from fun e => h e.symm]
/-- The same roots. -/
structure Same (F F' : List Nat) : Prop where
  frst : Frst F'
  len : F'.length = F.length
  root : ∀ i, root F' i = root F i
theorem Same.refl {F : List Nat} (h : Frst F) : Same F F := ⟨h, rfl, fun _ => rfl⟩
theorem Same.trans {F G H : List Nat} (h : Same F G) (h' : Same G H) : Same F H := ⟨h'.frst, h'.len.trans h.len, fun i => (h'.root i).trans (h.root i)⟩
theorem halve {F : List Nat} (hF : Frst F) (x : Nat) : Same F (F.set x (F.getD (F.getD x 0) 0)) := by
  have hg : F.getD (F.getD x 0) 0 ≤ x := Nat.le_trans (hF _) (hF _)
  have hF' : Frst (F.set x (F.getD (F.getD x 0) 0)) := by
    intro i
    rw [getD_set]
    split
    · omega
    · exact hF i
  refine ⟨hF', by simp, fun i => ?_⟩
  induction i using Nat.strongRecOn with
  | _ i ih =>
    by_cases hx : i = x ∧ x < F.length
    · obtain ⟨rfl, hl⟩ := hx
      have hv : (F.set i (F.getD (F.getD i 0) 0)).getD i 0 = F.getD (F.getD i 0) 0 := by
        rw [getD_set, if_pos ⟨rfl, hl⟩]
      by_cases h : F.getD (F.getD i 0) 0 < i
      · rw [root_lt (by rw [hv]; exact h), hv, ih _ h, root_step hF, root_step hF]
      · have h1 := hF (F.getD i 0)
        have h2 := hF i
        rw [root_ge (by rw [hv]; exact h), root_ge (by omega)]
    · have hv : (F.set x (F.getD (F.getD x 0) 0)).getD i 0 = F.getD i 0 := by rw [getD_set, if_neg hx]
      by_cases h : F.getD i 0 < i
      · rw [root_lt (by rw [hv]; exact h), hv, ih _ h, root_lt h]
      · rw [root_ge (by rw [hv]; exact h), root_ge h]
theorem joined {F : List Nat} (hF : Frst F) {m M : Nat} (hm : F.getD m 0 = m) (hM : F.getD M 0 = M) (hl : M < F.length) (hle : m ≤ M) :
    Frst (F.set M m) ∧ ∀ i, root (F.set M m) i = if root F i = M then m else root F i := by
  have hF' : Frst (F.set M m) := by
    intro i
    rw [getD_set]
    split
    · omega
    · exact hF i
  refine ⟨hF', fun i => ?_⟩
  induction i using Nat.strongRecOn with
  | _ i ih =>
    by_cases hx : i = M
    · subst hx
      have hv : (F.set i m).getD i 0 = m := by rw [getD_set, if_pos ⟨rfl, hl⟩]
      rw [root_ge (F := F) (i := i) (by omega), if_pos rfl]
      by_cases h : m < i
      · rw [root_lt (by rw [hv]; exact h), hv, ih m h, root_ge (F := F) (i := m) (by omega), if_neg (by omega)]
      · rw [root_ge (by rw [hv]; exact h)]
        omega
    · have hv : (F.set M m).getD i 0 = F.getD i 0 := by rw [getD_set, if_neg (fun e => hx e.1)]
      by_cases h : F.getD i 0 < i
      · rw [root_lt (by rw [hv]; exact h), hv, ih _ h, root_lt h]
      · rw [root_ge (by rw [hv]; exact h), root_ge h, if_neg hx]
/-- What a join makes of a group's least. -/
def jn (a b r : Nat) : Nat := if r = max a b then min a b else r
theorem joined_max {F : List Nat} (hF : Frst F) {a b : Nat} (ha : F.getD a 0 = a) (hb : F.getD b 0 = b) (hla : a < F.length) (hlb : b < F.length) :
    Frst (F.set (max a b) (min a b)) ∧ ∀ i, root (F.set (max a b) (min a b)) i = jn a b (root F i) := by
  rcases Nat.le_total a b with h | h
  · rw [Nat.max_eq_right h, Nat.min_eq_left h]
    have := joined hF ha hb hlb h
    refine ⟨this.1, fun i => ?_⟩
    rw [this.2, jn, Nat.max_eq_right h, Nat.min_eq_left h]
  · rw [Nat.max_eq_left h, Nat.min_eq_right h]
    have := joined hF hb ha hla h
    refine ⟨this.1, fun i => ?_⟩
    rw [this.2, jn, Nat.max_eq_left h, Nat.min_eq_right h]
theorem frst_range (n : Nat) : Frst (List.range n) := by
  intro i
  rw [List.getD_eq_getElem?_getD]
  by_cases h : i < n
  · rw [List.getElem?_eq_getElem (by simpa using h)]
    simp
  · rw [List.getElem?_eq_none (by simpa using h)]
    simp
theorem root_range {n i : Nat} (h : i < n) : root (List.range n) i = i := by
  refine root_ge ?_
  rw [List.getD_eq_getElem?_getD, List.getElem?_eq_getElem (by simpa using h)]
  simp
/-- The groups' least things, as a function. -/
def leasts : List (Nat × Nat) → (Nat → Nat) → Nat → Nat
  | [], R => R
  | p :: l, R => leasts l (fun i => jn (R p.1) (R p.2) (R i))
theorem leasts_snoc (l : List (Nat × Nat)) (p : Nat × Nat) (R : Nat → Nat) (i : Nat) : leasts (l ++ [p]) R i = jn (leasts l R p.1) (leasts l R p.2) (leasts l R i) := by
  induction l generalizing R with
  | nil => rfl
  | cons q l ih =>
    rw [List.cons_append, leasts, leasts]
    exact ih _
/-- Two things that pairs lead to one another. -/
inductive Tied (l : List (Nat × Nat)) : Nat → Nat → Prop
  | refl (i) : Tied l i i
  | step {i a b} : Tied l i a → ((a, b) ∈ l ∨ (b, a) ∈ l) → Tied l i b
theorem Tied.trans {l : List (Nat × Nat)} {i j k : Nat} (h : Tied l i j) (h' : Tied l j k) : Tied l i k := by
  induction h' with
  | refl => exact h
  | step _ hab ih => exact ih.step hab
theorem Tied.symm {l : List (Nat × Nat)} {i j : Nat} (h : Tied l i j) : Tied l j i := by
  induction h with
  | refl => exact .refl _
  | step _ hab ih => exact Tied.trans (.step (.refl _) hab.symm) ih
theorem Tied.mono {l l' : List (Nat × Nat)} (hs : ∀ p ∈ l, p ∈ l') {i j : Nat} (h : Tied l i j) : Tied l' i j := by
  induction h with
  | refl => exact .refl _
  | step _ hab ih => exact ih.step (hab.imp (hs _) (hs _))
/-- The least things of the groups that pairs make. -/
structure Least (l : List (Nat × Nat)) (R : Nat → Nat) : Prop where
  le : ∀ i, R i ≤ i
  fix : ∀ i, R (R i) = R i
  pair : ∀ p ∈ l, R p.1 = R p.2
  tied : ∀ i, Tied l i (R i)
theorem least_nil : Least [] id := ⟨fun _ => Nat.le_refl _, fun _ => rfl, by simp, fun _ => .refl _⟩
theorem Least.next {l : List (Nat × Nat)} {R : Nat → Nat} (h : Least l R) (a b : Nat) : Least (l ++ [(a, b)]) (fun i => jn (R a) (R b) (R i)) := by
  have hja : jn (R a) (R b) (R a) = min (R a) (R b) := by
    unfold jn
    split <;> omega
  have hjb : jn (R a) (R b) (R b) = min (R a) (R b) := by
    unfold jn
    split <;> omega
  have hjle : ∀ r, jn (R a) (R b) r ≤ r := by
    intro r
    unfold jn
    split <;> omega
  have hfix : ∀ i, R (jn (R a) (R b) (R i)) = jn (R a) (R b) (R i) := by
    intro i
    unfold jn
    split
    · rcases Nat.le_total (R a) (R b) with h1 | h1
      · rw [Nat.min_eq_left h1, h.fix]
      · rw [Nat.min_eq_right h1, h.fix]
    · exact h.fix i
  refine ⟨fun i => Nat.le_trans (hjle _) (h.le i), fun i => ?_, fun p hp => ?_, fun i => ?_⟩
  · show jn (R a) (R b) (R (jn (R a) (R b) (R i))) = _
    rw [hfix]
    unfold jn
    split
    · split
      · rfl
      · omega
    · rfl
  · rcases List.mem_append.1 hp with h1 | h1
    · show jn _ _ _ = jn _ _ _
      rw [h.pair p h1]
    · obtain rfl : p = (a, b) := by simpa using h1
      show jn (R a) (R b) (R a) = jn (R a) (R b) (R b)
      rw [hja, hjb]
  · have hl : ∀ p ∈ l, p ∈ l ++ [(a, b)] := fun p hp => List.mem_append_left _ hp
    have hab : Tied (l ++ [(a, b)]) (R a) (R b) := ((h.tied a).mono hl).symm.trans ((Tied.step (.refl a) (.inl (by simp))).trans ((h.tied b).mono hl))
    show Tied _ i (jn (R a) (R b) (R i))
    refine ((h.tied i).mono hl).trans ?_
    unfold jn
    split
    · rename_i he
      rw [he]
      rcases Nat.le_total (R a) (R b) with h1 | h1
      · rw [Nat.max_eq_right h1, Nat.min_eq_left h1]
        exact hab.symm
      · rw [Nat.max_eq_left h1, Nat.min_eq_right h1]
        exact hab
    · exact .refl _
theorem least_leasts (l : List (Nat × Nat)) : Least l (leasts l id) := by
  have : ∀ l l0 R, Least l0 R → Least (l0 ++ l) (leasts l R) := by
    intro l
    induction l with
    | nil =>
      intro l0 R h
      simpa [leasts] using h
    | cons p l ih =>
      intro l0 R h
      have := ih (l0 ++ [p]) _ (h.next p.1 p.2)
      rw [List.append_assoc] at this
      exact this
  simpa using this l [] id least_nil
theorem Least.same {l : List (Nat × Nat)} {R : Nat → Nat} (h : Least l R) {i j : Nat} (ht : Tied l i j) : R i = R j := by
  induction ht with
  | refl => rfl
  | step _ hab ih =>
    rw [ih]
    rcases hab with h1 | h1
    · exact h.pair _ h1
    · exact (h.pair _ h1).symm
theorem Least.uniq {l : List (Nat × Nat)} {R R' : Nat → Nat} (h : Least l R) (h' : Least l R') (i : Nat) : R i = R' i := by
  have h1 : R (R' i) = R i := (h.same (h'.tied i)).symm
  have h2 : R' (R i) = R' i := (h'.same (h.tied i)).symm
  have h3 := h.le (R' i)
  have h4 := h'.le (R i)
  omega
/-- A set of things that holds all leasts and that pairs don't leave holds all. -/
theorem Least.all {l : List (Nat × Nat)} {R : Nat → Nat} (h : Least l R) {P : Nat → Prop} (hP : ∀ i, R i = i → P i) (hl : ∀ p ∈ l, P p.1 ↔ P p.2) (i : Nat) : P i := by
  have h1 : P (R i) := hP _ (h.fix i)
  have h2 : ∀ j, Tied l (R i) j → P j := by
    intro j hj
    induction hj with
    | refl => exact h1
    | step _ hab ih =>
      rcases hab with h3 | h3
      · exact (hl _ h3).1 ih
      · exact (hl _ h3).2 ih
  exact h2 i (h.tied i).symm
/-- One pass over the pairs: who is met. -/
def mstep (M : List Bool) (p : Nat × Nat) : List Bool := if M.getD p.1 false || M.getD p.2 false then (M.set p.1 true).set p.2 true else M
def pass (l : List (Nat × Nat)) (M : List Bool) : List Bool := l.foldl mstep M
def passes (l : List (Nat × Nat)) (M : List Bool) : Nat → List Bool
  | 0 => M
  | k + 1 => pass l (passes l M k)
theorem getD_setB (M : List Bool) (x : Nat) (v : Bool) (i : Nat) : (M.set x v).getD i false = if i = x ∧ x < M.length then v else M.getD i false := by
  simp only [List.getD_eq_getElem?_getD, List.getElem?_set]
  by_cases h : x = i
  · subst h
    by_cases h2 : x < M.length
    · simp [h2]
    · simp [h2]
  · simp [h, show ¬ i = x from fun e => h e.symm]
theorem mstep_len (M : List Bool) (p : Nat × Nat) : (mstep M p).length = M.length := by
  unfold mstep
  split <;> simp
theorem mstep_mono (M : List Bool) (p : Nat × Nat) (i : Nat) (h : M.getD i false = true) : (mstep M p).getD i false = true := by
  unfold mstep
  split
  · rw [getD_setB, getD_setB]
    split
    · rfl
    · split
      · rfl
      · exact h
  · exact h
theorem pass_len (l : List (Nat × Nat)) (M : List Bool) : (pass l M).length = M.length := by
  unfold pass
  induction l generalizing M with
  | nil => rfl
  | cons p l ih => rw [List.foldl_cons, ih, mstep_len]
theorem pass_mono (l : List (Nat × Nat)) (M : List Bool) (i : Nat) (h : M.getD i false = true) : (pass l M).getD i false = true := by
  unfold pass
  induction l generalizing M with
  | nil => exact h
  | cons p l ih =>
    rw [List.foldl_cons]
    exact ih _ (mstep_mono M p i h)
theorem passes_len (l : List (Nat × Nat)) (M : List Bool) (k : Nat) : (passes l M k).length = M.length := by
  induction k with
  | zero => rfl
  | succ k ih => rw [passes, pass_len, ih]
theorem passes_mono (l : List (Nat × Nat)) (M : List Bool) (k i : Nat) (h : M.getD i false = true) : (passes l M k).getD i false = true := by
  induction k with
  | zero => exact h
  | succ k ih => exact pass_mono _ _ _ ih
theorem count_le : ∀ (M M' : List Bool), M.length = M'.length → (∀ i, M.getD i false = true → M'.getD i false = true) → M.count true ≤ M'.count true ∧ (M.count true = M'.count true → M = M')
  | [], [], _, _ => ⟨Nat.le_refl _, fun _ => rfl⟩
  | [], _ :: _, h, _ => by simp at h
  | _ :: _, [], h, _ => by simp at h
  | a :: M, b :: M', hl, h => by
    have ih := count_le M M' (by simpa using hl) (fun i hi => by simpa using h (i + 1) (by simpa using hi))
    have h0 := h 0
    simp at h0
    cases a <;> cases b <;> simp at h0 ⊢
    · exact ih
    · omega
    · exact ih
theorem closed_of : ∀ (l : List (Nat × Nat)) (M : List Bool), (∀ p ∈ l, p.1 < M.length ∧ p.2 < M.length) → (∀ i, (pass l M).getD i false = true → M.getD i false = true) → ∀ p ∈ l, (M.getD p.1 false = true ↔ M.getD p.2 false = true)
  | [], _, _, _ => by simp
  | q :: l, M, hn, h => by
    have h1 : ∀ i, (mstep M q).getD i false = true → M.getD i false = true := fun i hi => h i (pass_mono l _ i hi)
    have he : mstep M q = M := ((count_le _ _ (mstep_len M q) h1).2 (Nat.le_antisymm (count_le _ _ (mstep_len M q) h1).1 (count_le _ _ (mstep_len M q).symm (fun i => mstep_mono M q i)).1))
    intro p hp
    rcases List.mem_cons.1 hp with rfl | hp
    · have hb : ∀ b, (b = p.1 ∨ b = p.2) → (M.getD p.1 false = true ∨ M.getD p.2 false = true) → M.getD b false = true := by
        intro b hb ho
        refine h1 b ?_
        have ho' : (M.getD p.1 false || M.getD p.2 false) = true := by simpa using ho
        rw [mstep, if_pos ho', getD_setB, getD_setB]
        have h2 := hn p (by simp)
        rcases hb with rfl | rfl
        · split
          · rfl
          · rw [if_pos ⟨rfl, h2.1⟩]
        · rw [if_pos ⟨rfl, by simpa using h2.2⟩]
      exact ⟨fun h => hb _ (.inr rfl) (.inl h), fun h => hb _ (.inl rfl) (.inr h)⟩
    · refine closed_of l M (fun p hp => hn p (List.mem_cons_of_mem _ hp)) (fun i hi => h i ?_) p hp
      show (pass l (mstep M q)).getD i false = true
      rw [he]
      exact hi
theorem passes_or (l : List (Nat × Nat)) (M : List Bool) (k : Nat) : pass l (passes l M k) = passes l M k ∨ k ≤ (passes l M k).count true := by
  induction k with
  | zero => exact .inr (Nat.zero_le _)
  | succ k ih =>
    rcases ih with h | h
    · left
      rw [passes, h, h]
    · have hc := count_le (passes l M k) (pass l (passes l M k)) (pass_len _ _).symm (fun i => pass_mono l _ i)
      rcases Nat.lt_or_ge ((passes l M k).count true) ((pass l (passes l M k)).count true) with h1 | h1
      · right
        rw [passes]
        omega
      · left
        have := hc.2 (Nat.le_antisymm hc.1 h1)
        rw [passes, ← this, ← this]
theorem all_of_count : ∀ (M : List Bool), M.length ≤ M.count true → ∀ i, i < M.length → M.getD i false = true
  | [], _, i, hi => by simp at hi
  | a :: M, h, i, hi => by
    have hle : M.count true ≤ M.length := List.count_le_length
    cases a
    · simp at h
      omega
    · simp at h
      cases i with
      | zero => rfl
      | succ i => simpa using all_of_count M h i (by simpa using hi)
/-- After as many passes as there are things all are met. -/
theorem all_met {l : List (Nat × Nat)} {R : Nat → Nat} (h : Least l R) {n : Nat} (hn : ∀ p ∈ l, p.1 < n ∧ p.2 < n) {M : List Bool} (hM : M.length = n) (h0 : ∀ i, i < n → R i = i → M.getD i false = true) (i : Nat) (hi : i < n) : (passes l M n).getD i false = true := by
  have hl := passes_len l M n
  rcases passes_or l M n with h1 | h1
  · have hc := closed_of l (passes l M n) (fun p hp => by rw [hl, hM]; exact hn p hp) (by rw [h1]; exact fun _ h => h)
    have := h.all (P := fun j => j < n → (passes l M n).getD j false = true) (fun j hj hjn => passes_mono _ _ _ _ (h0 j hjn hj))
      (fun p hp => ⟨fun hx _ => (hc p hp).1 (hx (hn p hp).1), fun hx _ => (hc p hp).2 (hx (hn p hp).2)⟩) i
    exact this hi
  · exact all_of_count _ (by omega) i (by omega)
end Grp
end Go.Proofs.YtgmanmbicoofgaaDoor
