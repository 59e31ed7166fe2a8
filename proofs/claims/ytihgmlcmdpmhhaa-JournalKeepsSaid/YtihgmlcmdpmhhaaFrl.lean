/- Frames and what is read of them: plain Lean. -/
import Derived.Test.YtihgmlcmdpmhhaaUfr
namespace Go.Proofs.Ytihgmlcmdpmhhaa
set_option linter.unusedVariables false
set_option linter.unusedSimpArgs false
namespace Wire
theorem frameL_length (x : Nat) (ps : List Int) : (frameL x ps).length = (form ps.length).length + (form x).length + 4 + ps.length := by
  simp [frameL, hi_length, List.length_append]
  omega
theorem unf_frame (x : Nat) (ps l : List Int) (hx : U64 x) (hp : ps.length ≤ 65536) (hb : Byt ps) : unf (frameL x ps ++ l) = (x, ps, (frameL x ps).length, .ok) := by
  have hn : U64 ps.length := by unfold U64; omega
  have e : frameL x ps ++ l = form ps.length ++ (form x ++ (hi (crc (form x ++ ps)) 4 ++ (ps ++ l))) := by simp [frameL, List.append_assoc]
  have hc := crc_lt (form x ++ ps) ((Byt.form x hx).append hb)
  rw [frameL_length, e]
  have h1 := num_form ps.length hn (form x ++ (hi (crc (form x ++ ps)) 4 ++ (ps ++ l)))
  have d1 : (form ps.length ++ (form x ++ (hi (crc (form x ++ ps)) 4 ++ (ps ++ l)))).drop (form ps.length).length = form x ++ (hi (crc (form x ++ ps)) 4 ++ (ps ++ l)) := List.drop_left
  have h2 := num_form x hx (hi (crc (form x ++ ps)) 4 ++ (ps ++ l))
  rw [← d1] at h2
  have d2 : (form ps.length ++ (form x ++ (hi (crc (form x ++ ps)) 4 ++ (ps ++ l)))).drop ((form ps.length).length + (form x).length) = hi (crc (form x ++ ps)) 4 ++ (ps ++ l) := by
    rw [← List.drop_drop, d1]; exact List.drop_left
  have d3 : (form ps.length ++ (form x ++ (hi (crc (form x ++ ps)) 4 ++ (ps ++ l)))).drop ((form ps.length).length + (form x).length + 4) = ps ++ l := by
    rw [← List.drop_drop, d2]
    have := List.drop_left (l₁ := hi (crc (form x ++ ps)) 4) (l₂ := ps ++ l)
    rwa [hi_length] at this
  rw [unf_good h1 (by omega) h2, d1, d2, d3]
  have t1 : (form x ++ (hi (crc (form x ++ ps)) 4 ++ (ps ++ l))).take (form x).length = form x := List.take_left
  have t2 : (hi (crc (form x ++ ps)) 4 ++ (ps ++ l)).take 4 = hi (crc (form x ++ ps)) 4 := by
    have := List.take_left (l₁ := hi (crc (form x ++ ps)) 4) (l₂ := ps ++ l)
    rwa [hi_length] at this
  have t3 : (ps ++ l).take ps.length = ps := List.take_left
  rw [t1, t2, t3, low_hi, if_neg (by simp [hi_length]; omega), if_pos (by omega)]
theorem num_pre (x : Nat) (hx : U64 x) (i : Nat) (hi' : i < (form x).length) : num ((form x).take i) = (0, 0, .no 2) := by
  cases i with
  | zero => rfl
  | succ j =>
    unfold form at hi' ⊢
    split at hi'
    · simp at hi'
    · rename_i h
      rw [if_neg h]
      simp only [List.length_cons, hi_length] at hi'
      rw [List.take_succ_cons, num_cons, if_neg (by omega), if_pos (by rw [List.length_take, hi_length]; omega)]
theorem unf_pre (x : Nat) (ps : List Int) (hx : U64 x) (hp : ps.length ≤ 65536) (i : Nat) (hi' : i < (frameL x ps).length) : unf ((frameL x ps).take i) = (0, [], 0, .no 2) := by
  have hn : U64 ps.length := by unfold U64; omega
  have hl := frameL_length x ps
  have e : frameL x ps = form ps.length ++ (form x ++ (hi (crc (form x ++ ps)) 4 ++ ps)) := by simp [frameL, List.append_assoc]
  by_cases h1 : i < (form ps.length).length
  · rw [e, List.take_append_of_le_length (by omega)]
    exact unf_bad1 (num_pre _ hn i h1) (by simp)
  · have e1 : (frameL x ps).take i = form ps.length ++ (form x ++ (hi (crc (form x ++ ps)) 4 ++ ps)).take (i - (form ps.length).length) := by
      rw [e, List.take_append, List.take_of_length_le (by omega)]
    have hlen : ((frameL x ps).take i).length = i := by rw [List.length_take]; omega
    have n1 := num_form ps.length hn ((form x ++ (hi (crc (form x ++ ps)) 4 ++ ps)).take (i - (form ps.length).length))
    rw [← e1] at n1
    have d1 : ((frameL x ps).take i).drop (form ps.length).length = (form x ++ (hi (crc (form x ++ ps)) 4 ++ ps)).take (i - (form ps.length).length) := by rw [e1]; exact List.drop_left
    by_cases h2 : i - (form ps.length).length < (form x).length
    · have n2 : num (((frameL x ps).take i).drop (form ps.length).length) = (0, 0, .no 2) := by
        rw [d1, List.take_append_of_le_length (by omega)]
        exact num_pre x hx _ h2
      exact unf_bad2 n1 (by omega) n2 (by simp)
    · have n2 : num (((frameL x ps).take i).drop (form ps.length).length) = (x, (form x).length, .ok) := by
        rw [d1, List.take_append, List.take_of_length_le (by omega)]
        exact num_form x hx _
      rw [unf_good n1 (by omega) n2, if_pos (by rw [hlen]; omega)]
theorem unf_is (b : List Int) (hb : Byt b) (x : Nat) (ps : List Int) (k : Nat) (h : unf b = (x, ps, k, .ok)) : U64 x ∧ ps.length ≤ 65536 ∧ Byt ps ∧ k ≤ b.length ∧ frameL x ps = b.take k := by
  obtain ⟨sz, m, e1, he⟩ : ∃ sz m e, num b = (sz, m, e) := ⟨_, _, _, rfl⟩
  by_cases hok : e1 = .ok
  · subst hok
    by_cases hs : 65536 < sz
    · rw [unf_many he hs] at h; simp at h
    · obtain ⟨y, q, e2, he2⟩ : ∃ y q e, num (b.drop m) = (y, q, e) := ⟨_, _, _, rfl⟩
      by_cases hok2 : e2 = .ok
      · subst hok2
        rw [unf_good he hs he2] at h
        split at h
        · simp at h
        · rename_i hlen
          split at h
          · rename_i hcrc
            simp only [Prod.mk.injEq, and_true] at h
            obtain ⟨rfl, hps, rfl⟩ := h
            obtain ⟨u1, t1, l1, g1⟩ := form_num b hb sz m he
            obtain ⟨u2, t2, l2, g2⟩ := form_num (b.drop m) (hb.drop m) y q he2
            rw [List.length_drop] at g2
            have hpl : ps.length = sz := by rw [← hps, List.length_take, List.length_drop]; omega
            have hll : ((b.drop (m + q)).take 4).length = 4 := by rw [List.length_take, List.length_drop]; omega
            have hhl := hi_low ((b.drop (m + q)).take 4) ((hb.drop (m + q)).take 4)
            rw [hll] at hhl
            refine ⟨u2, by omega, by rw [← hps]; exact (hb.drop _).take _, by omega, ?_⟩
            rw [hps, t2] at hcrc
            unfold frameL
            rw [hcrc, hhl, hpl, ← t1, ← t2, ← hps, ← List.take_add, ← List.take_add, ← List.take_add]
          · simp at h
      · rw [unf_bad2 he hs he2 hok2] at h
        simp at h
        exact absurd h.2.2.2 hok2
  · rw [unf_bad1 he hok] at h
    simp at h
    exact absurd h.2.2.2 hok
end Wire
end Go.Proofs.Ytihgmlcmdpmhhaa
