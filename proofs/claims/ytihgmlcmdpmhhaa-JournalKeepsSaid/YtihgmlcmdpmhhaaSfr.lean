/- Records' frames, one behind the other, and what a scan makes of a beginning of them: plain. -/
import Derived.Test.YtihgmlcmdpmhhaaSca
import Derived.Test.YtihgmlcmdpmhhaaFrl
namespace Go.Proofs.Ytihgmlcmdpmhhaa
set_option linter.unusedVariables false
set_option linter.unusedSimpArgs false
namespace Jrn
open Wire
def Recs (L : List (List Int)) : Prop := ∀ r ∈ L, r.length ≤ 65536 ∧ Byt r
theorem Recs.tail {r : List Int} {L : List (List Int)} (h : Recs (r :: L)) : Recs L := fun x hx => h x (List.mem_cons_of_mem _ hx)
theorem Recs.head {r : List Int} {L : List (List Int)} (h : Recs (r :: L)) : r.length ≤ 65536 ∧ Byt r := h r (List.mem_cons_self ..)
theorem Recs.take {L : List (List Int)} (h : Recs L) (n : Nat) : Recs (L.take n) := fun x hx => h x (List.mem_of_mem_take hx)
theorem Recs.snoc {L : List (List Int)} (h : Recs L) {r : List Int} (h1 : r.length ≤ 65536) (h2 : Byt r) : Recs (L ++ [r]) := fun x hx => by
  rcases List.mem_append.1 hx with hx | hx
  · exact h x hx
  · rw [List.mem_singleton] at hx; subst hx; exact ⟨h1, h2⟩
/-- The frames of records, the first of which has number k + 1. -/
def frs (k : Nat) : List (List Int) → List Int
  | [] => []
  | r :: rs => frameL (k + 1) r ++ frs (k + 1) rs
theorem frs_append (L M : List (List Int)) : ∀ k, frs k (L ++ M) = frs k L ++ frs (k + L.length) M := by
  induction L with
  | nil => intro k; simp [frs]
  | cons r rs ih => intro k; simp only [List.cons_append, frs, ih, List.append_assoc, List.length_cons]; rw [show k + 1 + rs.length = k + (rs.length + 1) by omega]
theorem frs_snoc (L : List (List Int)) (r : List Int) : frs 0 (L ++ [r]) = frs 0 L ++ frameL (L.length + 1) r := by
  rw [frs_append]; simp [frs]
theorem frs_take (L : List (List Int)) (k j : Nat) : frs k (L.take j) = (frs k L).take (frs k (L.take j)).length := by
  conv => rhs; rw [← List.take_append_drop j L]
  rw [List.take_append_drop, show frs k L = frs k (L.take j ++ L.drop j) by rw [List.take_append_drop], frs_append]
  exact List.take_left.symm
theorem frs_le (L : List (List Int)) (k j : Nat) : (frs k (L.take j)).length ≤ (frs k L).length := by
  rw [frs_take, List.length_take]; omega
theorem frameL_pos (x : Nat) (ps : List Int) : 4 ≤ (frameL x ps).length := by rw [frameL_length]; omega
theorem Byt.frameL {x : Nat} {ps : List Int} (hx : U64 x) (hp : ps.length ≤ 65536) (hb : Byt ps) : Byt (frameL x ps) := by
  unfold Wire.frameL
  exact (((Byt.form _ (by unfold U64; omega)).append (Byt.form _ hx)).append (Byt.hi _ _)).append hb
theorem Byt.frs {L : List (List Int)} : ∀ {k : Nat}, Recs L → k + L.length ≤ 18446744073709551615 → Byt (frs k L) := by
  induction L with
  | nil => intro k _ _ c hc; simp [Jrn.frs] at hc
  | cons r rs ih =>
    intro k h hk
    simp only [List.length_cons] at hk
    exact (Byt.frameL (by unfold U64; omega) h.head.1 h.head.2).append (ih h.tail (by omega))
theorem scanR_nil (f k : Nat) : scanR f k [] = ([], 0, .w .ok) := by cases f <;> simp [scanR]
theorem frs_len_mono (L : List (List Int)) (k : Nat) {i j : Nat} (h : i ≤ j) : (frs k (L.take i)).length ≤ (frs k (L.take j)).length := by
  have := frs_le (L.take j) k i
  rwa [List.take_take, Nat.min_eq_left h] at this
theorem scanR_take (L : List (List Int)) : ∀ (k c f : Nat), Recs L → k + L.length ≤ 18446744073709551615 → ((frs k L).take c).length ≤ f →
    ∃ j e, j ≤ L.length ∧ (frs k (L.take j)).length ≤ c ∧ scanR f k ((frs k L).take c) = (L.take j, (frs k (L.take j)).length, .w e) ∧ (e = .ok ↔ (frs k (L.take j)).length = ((frs k L).take c).length) ∧
      ∀ i, i ≤ L.length → (frs k (L.take i)).length ≤ c → i ≤ j := by
  induction L with
  | nil => intro k c f _ _ _; exact ⟨0, .ok, Nat.le_refl _, by simp [frs], by simp [frs, scanR_nil], by simp [frs], fun i hi _ => hi⟩
  | cons r rs ih =>
    intro k c f h hk hf
    simp only [List.length_cons] at hk
    have hp := frameL_pos (k + 1) r
    by_cases hc : (frameL (k + 1) r).length ≤ c
    · have e1 : (frs k (r :: rs)).take c = frameL (k + 1) r ++ (frs (k + 1) rs).take (c - (frameL (k + 1) r).length) := by
        simp only [frs]; rw [List.take_append, List.take_of_length_le hc]
      rw [e1] at hf ⊢
      rw [List.length_append] at hf
      obtain ⟨g, rfl⟩ : ∃ g, f = g + 1 := ⟨f - 1, by omega⟩
      obtain ⟨j, e, h1, h2, h3, h4, h5⟩ := ih (k + 1) (c - (frameL (k + 1) r).length) g h.tail (by omega) (by omega)
      refine ⟨j + 1, e, by simp; omega, by simp only [List.take_succ_cons, frs, List.length_append]; omega, ?_, ?_, ?_⟩
      · conv => lhs; unfold scanR
        rw [if_neg (by rw [List.length_append]; omega), unf_frame (k + 1) r _ (by unfold U64; omega) h.head.1 h.head.2]
        simp only [if_true, List.drop_left]
        rw [h3]
        simp [frs]
      · rw [h4]
        simp only [List.take_succ_cons, frs, List.length_append]
        omega
      · intro i hi hic
        cases i with
        | zero => omega
        | succ i =>
          simp only [List.take_succ_cons, frs, List.length_append, List.length_cons] at hic hi
          have := h5 i (by omega) (by omega)
          omega
    · have e1 : (frs k (r :: rs)).take c = (frameL (k + 1) r).take c := by
        simp only [frs]; rw [List.take_append_of_le_length (by omega)]
      rw [e1] at hf ⊢
      have hl : ((frameL (k + 1) r).take c).length = c := by rw [List.length_take]; omega
      have h6 : ∀ i, i ≤ (r :: rs).length → (frs k ((r :: rs).take i)).length ≤ c → i ≤ 0 := by
        intro i hi hic
        cases i with
        | zero => omega
        | succ i => simp only [List.take_succ_cons, frs, List.length_append] at hic; omega
      by_cases h0 : c = 0
      · subst h0
        exact ⟨0, .ok, by omega, by simp [frs], by simp [frs, scanR_nil], by simp [frs], h6⟩
      · obtain ⟨g, rfl⟩ : ∃ g, f = g + 1 := ⟨f - 1, by omega⟩
        refine ⟨0, .no 2, by omega, by simp [frs], ?_, ?_, h6⟩
        · conv => lhs; unfold scanR
          rw [if_neg (by omega), unf_pre (k + 1) r (by unfold U64; omega) h.head.1 c (by omega)]
          simp [frs]
        · simp [frs, hl]; omega
theorem scan_take (L : List (List Int)) (c : Nat) (h : Recs L) (hk : L.length ≤ 18446744073709551615) :
    ∃ j e, j ≤ L.length ∧ (frs 0 (L.take j)).length ≤ c ∧ scan ((frs 0 L).take c) = (L.take j, (frs 0 (L.take j)).length, .w e) ∧ (e = .ok ↔ (frs 0 (L.take j)).length = ((frs 0 L).take c).length) ∧
      ∀ i, i ≤ L.length → (frs 0 (L.take i)).length ≤ c → i ≤ j := scanR_take L 0 c _ h (by omega) (Nat.le_refl _)
theorem scan_frs (L : List (List Int)) (h : Recs L) (hk : L.length ≤ 18446744073709551615) : scan (frs 0 L) = (L, (frs 0 L).length, .w .ok) := by
  obtain ⟨j, e, h1, h2, h3, h4, h5⟩ := scan_take L (frs 0 L).length h hk
  have := h5 L.length (Nat.le_refl _) (by rw [List.take_of_length_le (Nat.le_refl _)]; exact Nat.le_refl _)
  have hj : j = L.length := by omega
  subst hj
  rw [List.take_of_length_le (Nat.le_refl _), List.take_of_length_le (Nat.le_refl _)] at h3 h4
  rw [h3, h4.2 rfl]
end Jrn
end Go.Proofs.Ytihgmlcmdpmhhaa
