/- Frames, one behind the other: plain; rows of rows of bytes in memory. -/
import Derived.Test.YtihgmlcmdpmhhaaRdq
import Derived.Test.YtihgmlcmdpmhhaaUfr
import Derived.Test.YtihgmlcmdpmhhaaAps
namespace Go.Proofs.Ytihgmlcmdpmhhaa
set_option linter.unusedVariables false
set_option linter.unusedSimpArgs false
namespace Jrn
open Go.RowKit Mem Apn Wire
theorem unf_fits (b : List Int) (hb : Byt b) (x : Nat) (ps : List Int) (k : Nat) (h : unf b = (x, ps, k, .ok)) : 1 ≤ k ∧ k ≤ b.length ∧ ps.length ≤ 65536 ∧ Byt ps := by
  obtain ⟨sz, m, e1, he⟩ : ∃ sz m e, num b = (sz, m, e) := ⟨_, _, _, rfl⟩
  cases e1 with
  | no j => rw [unf_bad1 he (by simp)] at h; simp at h
  | ref s j => rw [unf_bad1 he (by simp)] at h; simp at h
  | ok =>
    by_cases hs : 65536 < sz
    · rw [unf_many he hs] at h; simp at h
    · obtain ⟨x2, k2, e2, h2⟩ : ∃ x k e, num (b.drop m) = (x, k, e) := ⟨_, _, _, rfl⟩
      cases e2 with
      | no j => rw [unf_bad2 he hs h2 (by simp)] at h; simp at h
      | ref s j => rw [unf_bad2 he hs h2 (by simp)] at h; simp at h
      | ok =>
        rw [unf_good he hs h2] at h
        split at h
        · simp at h
        · split at h
          · simp only [Prod.mk.injEq] at h
            obtain ⟨_, hp, hk, _⟩ := h
            refine ⟨by omega, by omega, ?_, ?_⟩
            · rw [← hp, List.length_take]; omega
            · rw [← hp]; exact fun c hc => hb c (List.mem_of_mem_drop (List.mem_of_mem_take hc))
          · simp at h
/-- How a scan ends. -/
inductive Jr where
  | w (e : Er)
  | num
/-- The records of bytes from record k on, how many bytes they are, and how it ends. -/
def scanR : Nat → Nat → List Int → List (List Int) × Nat × Jr
  | 0, _, _ => ([], 0, .w .ok)
  | f + 1, k, b =>
    if b.length = 0 then ([], 0, .w .ok)
    else match unf b with
      | (x, ps, n, .ok) => if x = k + 1 then (ps :: (scanR f (k + 1) (b.drop n)).1, n + (scanR f (k + 1) (b.drop n)).2.1, (scanR f (k + 1) (b.drop n)).2.2) else ([], 0, .num)
      | (_, _, _, e) => ([], 0, .w e)
theorem scanR_fuel : ∀ (f g k : Nat) (b : List Int), Byt b → b.length ≤ f → b.length ≤ g → scanR f k b = scanR g k b
  | 0, 0, _, _, _, _, _ => rfl
  | 0, g + 1, k, b, _, hf, _ => by unfold scanR; rw [if_pos (by omega)]
  | f + 1, 0, k, b, _, _, hg => by unfold scanR; rw [if_pos (by omega)]
  | f + 1, g + 1, k, b, hb, hf, hg => by
    unfold scanR
    by_cases h0 : b.length = 0
    · rw [if_pos h0, if_pos h0]
    · rw [if_neg h0, if_neg h0]
      obtain ⟨x, ps, n, e, hu⟩ : ∃ x ps n e, unf b = (x, ps, n, e) := ⟨_, _, _, _, rfl⟩
      rw [hu]
      cases e with
      | ok =>
        obtain ⟨h1, h2, _, _⟩ := unf_fits b hb x ps n hu
        have h3 := scanR_fuel f g (k + 1) (b.drop n) (fun c hc => hb c (List.mem_of_mem_drop hc)) (by rw [List.length_drop]; omega) (by rw [List.length_drop]; omega)
        simp only [h3]
      | no j => rfl
      | ref s j => rfl
/-- The scan of bytes. -/
def scan (b : List Int) : List (List Int) × Nat × Jr := scanR b.length 0 b
/-- The scan's rest: behind 'at' bytes and the records L. -/
def Sc (b : List Int) (L : List (List Int)) (at_ : Nat) : Prop :=
  at_ ≤ b.length ∧ L.length ≤ at_ ∧ scan b = (L ++ (scanR b.length L.length (b.drop at_)).1, at_ + (scanR b.length L.length (b.drop at_)).2.1, (scanR b.length L.length (b.drop at_)).2.2)
theorem Sc.start (b : List Int) : Sc b [] 0 := ⟨Nat.zero_le _, Nat.le_refl _, by simp [scan]⟩
theorem Sc.done {b : List Int} {L : List (List Int)} {at_ : Nat} (h : Sc b L at_) (hd : ¬ at_ < b.length) : scan b = (L, at_, .w .ok) := by
  obtain ⟨h1, _, h2⟩ := h
  have h3 : b.drop at_ = [] := List.drop_eq_nil_of_le (by omega)
  have h4 : ∀ f k, scanR f k [] = ([], 0, .w .ok) := fun f k => by cases f <;> simp [scanR]
  rw [h2, h3, h4]; simp
theorem scanR_succ {f k : Nat} {b : List Int} (h : 0 < b.length) (hf : b.length ≤ f) : ∃ g, f = g + 1 ∧ b.length ≤ g + 1 := ⟨f - 1, by omega, by omega⟩
theorem Sc.bad {b : List Int} {L : List (List Int)} {at_ x n : Nat} {ps : List Int} {e : Er} (h : Sc b L at_) (hd : at_ < b.length) (hu : unf (b.drop at_) = (x, ps, n, e)) (he : e ≠ .ok) : scan b = (L, at_, .w e) := by
  obtain ⟨h1, _, h2⟩ := h
  obtain ⟨g, hg⟩ : ∃ g, b.length = g + 1 := ⟨b.length - 1, by omega⟩
  have h3 : scanR b.length L.length (b.drop at_) = ([], 0, .w e) := by
    rw [hg]
    unfold scanR
    rw [if_neg (by rw [List.length_drop]; omega), hu]
    cases e with
    | ok => exact absurd rfl he
    | no j => rfl
    | ref s j => rfl
  rw [h2, h3]; simp
theorem Sc.num {b : List Int} {L : List (List Int)} {at_ x n : Nat} {ps : List Int} (h : Sc b L at_) (hd : at_ < b.length) (hu : unf (b.drop at_) = (x, ps, n, .ok)) (hx : x ≠ L.length + 1) : scan b = (L, at_, .num) := by
  obtain ⟨h1, _, h2⟩ := h
  obtain ⟨g, hg⟩ : ∃ g, b.length = g + 1 := ⟨b.length - 1, by omega⟩
  have h3 : scanR b.length L.length (b.drop at_) = ([], 0, .num) := by
    rw [hg]
    unfold scanR
    rw [if_neg (by rw [List.length_drop]; omega), hu]
    simp only [if_neg hx]
  rw [h2, h3]; simp
theorem Sc.next {b : List Int} {L : List (List Int)} {at_ n : Nat} {ps : List Int} (h : Sc b L at_) (hb : Byt b) (hd : at_ < b.length) (hu : unf (b.drop at_) = (L.length + 1, ps, n, .ok)) : Sc b (L ++ [ps]) (at_ + n) ∧ 1 ≤ n ∧ at_ + n ≤ b.length := by
  obtain ⟨h1, h0, h2⟩ := h
  have hbd : Byt (b.drop at_) := fun c hc => hb c (List.mem_of_mem_drop hc)
  obtain ⟨n1, n2, _, _⟩ := unf_fits _ hbd _ _ _ hu
  rw [List.length_drop] at n2
  obtain ⟨g, hg⟩ : ∃ g, b.length = g + 1 := ⟨b.length - 1, by omega⟩
  have h3 : scanR b.length L.length (b.drop at_) = (ps :: (scanR b.length (L.length + 1) (b.drop (at_ + n))).1, n + (scanR b.length (L.length + 1) (b.drop (at_ + n))).2.1, (scanR b.length (L.length + 1) (b.drop (at_ + n))).2.2) := by
    have h5 := scanR_fuel g b.length (L.length + 1) (b.drop (at_ + n)) (fun c hc => hb c (List.mem_of_mem_drop hc)) (by rw [List.length_drop]; omega) (by rw [List.length_drop]; omega)
    rw [← h5]
    conv => lhs; rw [hg]; unfold scanR
    rw [if_neg (by rw [List.length_drop]; omega), hu]
    simp only [if_true, List.drop_drop]
  refine ⟨⟨by omega, by simp; omega, ?_⟩, n1, by omega⟩
  rw [h2, h3]
  simp [Nat.add_assoc]
/-- A row of rows of bytes, each in blocks of its own. -/
structure Rows (w : World) (base : Nat) (v : Value) (xs : List (List Int)) : Prop where
  ex : ∃ V : Nat → Value, w.ownsW base 23 1 v xs.length ((List.range xs.length).map V) ∧ (∀ j (h : j < xs.length), OwnN w base 5 .u8 (V j) (xs[j]'h)) ∧ (∀ i j, i < j → j < xs.length → ∀ k, (V i).ownBlock = some k → (V j).ownBlock ≠ some k)
theorem Rows.nil (w : World) (base : Nat) : Rows w base (.slice none 0 0) [] := ⟨fun _ => .nilIface, own_nil w base _ _, fun j h => absurd h (by simp), fun i j _ h => absurd h (by simp)⟩
theorem Rows.keep {w w' : World} {base : Nat} {v : Value} {xs : List (List Int)} (h : Rows w base v xs) {S : Nat → Prop} (hk : Keep S w w') (hS : ∀ k, base ≤ k → k < w.heap.size → ¬ S k) : Rows w' base v xs := by
  obtain ⟨V, h1, h2, h3⟩ := h.ex
  exact ⟨V, hk.own h1 (fun k e => hS k (own_ge h1 k e) (own_lt h1 k e)), fun j hj => hk.own (h2 j hj) (fun k e => hS k (own_ge (h2 j hj) k e) (own_lt (h2 j hj) k e)), h3⟩
theorem Rows.rebase {w : World} {base base' : Nat} {v : Value} {xs : List (List Int)} (h : Rows w base v xs) (hb : base' ≤ base) : Rows w base' v xs := by
  obtain ⟨V, h1, h2, h3⟩ := h.ex
  exact ⟨V, own_rebase h1 (fun k e => Nat.le_trans hb (own_ge h1 k e)), fun j hj => own_rebase (h2 j hj) (fun k e => Nat.le_trans hb (own_ge (h2 j hj) k e)), h3⟩
/-- One more row. -/
theorem Rows.snoc {w1 w2 : World} {base : Nat} {v u : Value} {xs : List (List Int)} {y : List Int} (h : Rows w1 base v xs) (hbw : base ≤ w1.heap.size) (hb : Below w1.heap.size w1 w2) (hu : OwnN w2 w1.heap.size 5 .u8 u y) :
    ∃ cells : List Value, w2.ownsW base 23 1 v xs.length cells ∧ ∀ v' w3, w3.ownsW base 23 1 v' (xs.length + 1) (cells ++ [u]) → w2.grownBy w3 v.ownBlock → Rows w3 base v' (xs ++ [y]) := by
  obtain ⟨V, h1, h2, h3⟩ := h.ex
  have k12 : Keep (fun _ => False) w1 w2 := Keep.of_below hb _
  refine ⟨(List.range xs.length).map V, k12.own h1 (fun _ _ h => h), fun v' w3 ho hg => ?_⟩
  have k23 := Keep.of_grown hg
  have h1' := k12.own h1 (fun _ _ h => h)
  refine ⟨fun j => if j = xs.length then u else V j, ?_, ?_, ?_⟩
  · rw [List.length_append, List.length_singleton, List.range_succ, List.map_append]
    have e1 : (List.range xs.length).map (fun j => if j = xs.length then u else V j) = (List.range xs.length).map V := by
      apply List.map_congr_left
      intro j hj
      rw [List.mem_range] at hj
      rw [if_neg (by omega)]
    rw [e1]
    simpa using ho
  · intro j hj
    rw [List.length_append, List.length_singleton] at hj
    by_cases hjn : j = xs.length
    · subst hjn
      simp only [if_true]
      rw [List.getElem_append_right (Nat.le_refl _)]
      simp only [Nat.sub_self, List.getElem_singleton]
      exact own_rebase (k23.own hu (fun k hk e => Aps.own_type_ne hu h1' (by decide) hk e)) (fun k hk => Nat.le_trans hbw (own_ge hu k hk))
    · simp only [if_neg hjn]
      rw [List.getElem_append_left (by omega)]
      have h4 := k12.own (h2 j (by omega)) (fun _ _ h => h)
      exact k23.own h4 (fun k hk e => Aps.own_type_ne h4 h1' (by decide) hk e)
  · intro i j hij hj k hi
    rw [List.length_append, List.length_singleton] at hj
    simp only [if_neg (show ¬ i = xs.length by omega)] at hi
    by_cases hjn : j = xs.length
    · simp only [if_pos hjn]
      intro e
      have := own_ge hu k e
      have := own_lt (h2 i (by omega)) k hi
      omega
    · simp only [if_neg hjn]
      exact h3 i j hij (by omega) k hi
end Jrn
end Go.Proofs.Ytihgmlcmdpmhhaa
