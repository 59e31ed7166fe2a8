/- A frame some of whose neighbouring bytes are changed: plain Lean. -/
import Derived.Test.YthkhemcbkcoliaaDoorBst
namespace Go.Proofs.YthkhemcbkcoliaaDoor
set_option linter.unusedVariables false
set_option linter.unusedSimpArgs false
namespace Wire
theorem unf_seven (x : Nat) (hs ps : List Int) (hx : U64 x) (hp : ps.length ≤ 65536) (h4 : hs.length = 4) (hne : crc (form x ++ ps) ≠ low hs) : unf (form ps.length ++ form x ++ hs ++ ps) = (0, [], 0, .ref wFrame 7) := by
  have hn : U64 ps.length := by unfold U64; omega
  have e : form ps.length ++ form x ++ hs ++ ps = form ps.length ++ (form x ++ (hs ++ ps)) := by simp [List.append_assoc]
  rw [e]
  have h1 := num_form ps.length hn (form x ++ (hs ++ ps))
  have d1 : (form ps.length ++ (form x ++ (hs ++ ps))).drop (form ps.length).length = form x ++ (hs ++ ps) := List.drop_left
  have h2 := num_form x hx (hs ++ ps)
  rw [← d1] at h2
  have d2 : (form ps.length ++ (form x ++ (hs ++ ps))).drop ((form ps.length).length + (form x).length) = hs ++ ps := by
    rw [← List.drop_drop, d1]; exact List.drop_left
  have d3 : (form ps.length ++ (form x ++ (hs ++ ps))).drop ((form ps.length).length + (form x).length + 4) = ps := by
    rw [← List.drop_drop, d2]
    have := List.drop_left (l₁ := hs) (l₂ := ps)
    rwa [h4] at this
  rw [unf_good h1 (by omega) h2, d1, d2, d3]
  have t1 : (form x ++ (hs ++ ps)).take (form x).length = form x := List.take_left
  have t2 : (hs ++ ps).take 4 = hs := by
    have := List.take_left (l₁ := hs) (l₂ := ps)
    rwa [h4] at this
  have t3 : ps.take ps.length = ps := List.take_length
  rw [t1, t2, t3, if_neg (by simp [h4]; omega), if_neg hne]
/-- Bytes, each turned by its own. -/
def xo (T : Nat → Nat) : List Int → Nat → List Int
  | [], _ => []
  | c :: l, k => ((c.toNat ^^^ T k : Nat) : Int) :: xo T l (k + 1)
theorem xo_length (T : Nat → Nat) (l : List Int) : ∀ k, (xo T l k).length = l.length := by
  induction l with
  | nil => intro k; rfl
  | cons c l ih => intro k; simp [xo, ih]
theorem xo_snoc (T : Nat → Nat) (l : List Int) (c : Int) : ∀ k, xo T (l ++ [c]) k = xo T l k ++ [((c.toNat ^^^ T (k + l.length) : Nat) : Int)] := by
  induction l with
  | nil => intro k; rfl
  | cons d l ih =>
    intro k
    simp only [List.cons_append, xo, ih, List.length_cons]
    rw [show k + 1 + l.length = k + (l.length + 1) by omega]
theorem xo_byt (T : Nat → Nat) (hT : ∀ k, T k < 256) (l : List Int) (hl : Byt l) : ∀ k, Byt (xo T l k) := by
  induction l with
  | nil => intro k c hc; simp [xo] at hc
  | cons d l ih =>
    intro k c hc
    rcases List.mem_cons.1 hc with rfl | hc
    · have h1 := hl d (List.mem_cons_self ..)
      have h2 : d.toNat ^^^ T k < 256 := Nat.xor_lt_two_pow (n := 8) (by omega) (hT k)
      omega
    · exact ih hl.tail (k + 1) c hc
theorem xo_same (T : Nat → Nat) (l : List Int) (hl : Byt l) : ∀ k, xo T l k = l → ∀ t, t < l.length → T (k + t) = 0 := by
  induction l with
  | nil => intro k _ t ht; simp at ht
  | cons d l ih =>
    intro k h t ht
    simp only [xo, List.cons.injEq] at h
    have h1 := hl d (List.mem_cons_self ..)
    cases t with
    | zero =>
      have h2 : d.toNat ^^^ T k = d.toNat := by omega
      have h3 : d.toNat ^^^ (d.toNat ^^^ T k) = 0 := by rw [h2, Nat.xor_self]
      rw [← Nat.xor_assoc, Nat.xor_self, Nat.zero_xor] at h3
      exact h3
    | succ t =>
      have := ih hl.tail (k + 1) h.2 t (by simpa using ht)
      rw [show k + (t + 1) = k + 1 + t by omega]
      exact this
/-- A row, i of whose bytes from pos on are turned. -/
def flip (F : List Int) (T : Nat → Nat) (pos i : Nat) : List Int := F.take pos ++ xo T ((F.drop pos).take i) 0 ++ F.drop (pos + i)
theorem flip_zero (F : List Int) (T : Nat → Nat) (pos : Nat) : flip F T pos 0 = F := by simp [flip, xo]
theorem flip_length (F : List Int) (T : Nat → Nat) (pos i : Nat) (h : pos + i ≤ F.length) : (flip F T pos i).length = F.length := by
  simp only [flip, List.length_append, xo_length, List.length_take, List.length_drop]
  omega
theorem flip_at (F : List Int) (T : Nat → Nat) (pos i : Nat) (h : pos + i < F.length) : (flip F T pos i).getD (pos + i) 0 = F.getD (pos + i) 0 := by
  have hl : (F.take pos ++ xo T ((F.drop pos).take i) 0).length = pos + i := by
    simp only [List.length_append, xo_length, List.length_take, List.length_drop]
    omega
  rw [List.getD_eq_getElem?_getD, List.getD_eq_getElem?_getD, flip, List.getElem?_append_right (by omega), hl, Nat.sub_self, List.getElem?_drop, Nat.add_zero]
theorem flip_succ (F : List Int) (T : Nat → Nat) (pos i : Nat) (h : pos + i < F.length) : (flip F T pos i).set (pos + i) (((F.getD (pos + i) 0).toNat ^^^ T i : Nat) : Int) = flip F T pos (i + 1) := by
  have hl : (F.take pos ++ xo T ((F.drop pos).take i) 0).length = pos + i := by
    simp only [List.length_append, xo_length, List.length_take, List.length_drop]
    omega
  have hd : F.drop (pos + i) = F.getD (pos + i) 0 :: F.drop (pos + (i + 1)) := by
    rw [List.drop_eq_getElem_cons h, List.getD_eq_getElem?_getD, List.getElem?_eq_getElem h]
    rfl
  have ht : (F.drop pos).take (i + 1) = (F.drop pos).take i ++ [F.getD (pos + i) 0] := by
    rw [List.take_succ_eq_append_getElem (by simp; omega), List.getElem_drop, List.getD_eq_getElem?_getD, List.getElem?_eq_getElem h]
    rfl
  have hil : ((F.drop pos).take i).length = i := by simp; omega
  unfold flip
  rw [hd, ht, xo_snoc, hil, Nat.zero_add, List.set_append_right _ _ (by omega), hl, Nat.sub_self, List.set_cons_zero]
  simp [List.append_assoc]
theorem flip_byt (F : List Int) (T : Nat → Nat) (hT : ∀ k, T k < 256) (pos i : Nat) (h : Byt F) : Byt (flip F T pos i) :=
  ((h.take pos).append (xo_byt T hT _ ((h.drop pos).take i) 0)).append (h.drop (pos + i))
/-- What is turned is seen: of the payload, or of the sum. -/
theorem flip_unf (x : Nat) (ps : List Int) (hx : U64 x) (hp : ps.length ≤ 65536) (hb : Byt ps) (T : Nat → Nat) (hT : ∀ k, T k < 256) (pos j : Nat) (hj : j ≤ 4)
    (hc : ((form ps.length).length + (form x).length + 4 ≤ pos ∧ pos + j ≤ (frameL x ps).length) ∨ (pos = (form ps.length).length + (form x).length ∧ j = 4)) (hne : ¬ ∀ t, t < j → T t = 0) :
    unf (flip (frameL x ps) T pos j) = (0, [], 0, .ref wFrame 7) := by
  have hcl := crc_lt (form x ++ ps) ((Byt.form x hx).append hb)
  have hhl : (hi (crc (form x ++ ps)) 4).length = 4 := hi_length _ _
  have hlow : low (hi (crc (form x ++ ps)) 4) = crc (form x ++ ps) := by rw [low_hi]; exact Nat.mod_eq_of_lt hcl
  have hhb : Byt (hi (crc (form x ++ ps)) 4) := Byt.hi _ 4
  unfold frameL at hc ⊢
  generalize hh : hi (crc (form x ++ ps)) 4 = hs at *
  rcases hc with ⟨h1, h2⟩ | ⟨rfl, rfl⟩
  · obtain ⟨at_, rfl⟩ : ∃ a, pos = (form ps.length ++ form x ++ hs).length + a := ⟨pos - (form ps.length ++ form x ++ hs).length, by simp [hhl]; omega⟩
    have h3 : at_ + j ≤ ps.length := by simp [hhl] at h2; omega
    have e1 : (form ps.length ++ form x ++ hs ++ ps).take ((form ps.length ++ form x ++ hs).length + at_) = form ps.length ++ form x ++ hs ++ ps.take at_ := List.take_length_add_append ..
    have e2 : ∀ a, (form ps.length ++ form x ++ hs ++ ps).drop ((form ps.length ++ form x ++ hs).length + a) = ps.drop a := fun a => List.drop_length_add_append ..
    have ef : flip (form ps.length ++ form x ++ hs ++ ps) T ((form ps.length ++ form x ++ hs).length + at_) j = form ps.length ++ form x ++ hs ++ (ps.take at_ ++ xo T ((ps.drop at_).take j) 0 ++ ps.drop (at_ + j)) := by
      unfold flip
      rw [e1, e2, Nat.add_assoc, e2]
      simp [List.append_assoc]
    have hln : (ps.take at_ ++ xo T ((ps.drop at_).take j) 0 ++ ps.drop (at_ + j)).length = ps.length := by
      simp only [List.length_append, xo_length, List.length_take, List.length_drop]
      omega
    have hal : ((ps.drop at_).take j).length = j := by simp; omega
    rw [ef, ← hln]
    refine unf_seven x hs _ hx (by omega) hhl ?_
    rw [hlow]
    have hcb := crc_burst (form x ++ ps.take at_) ((ps.drop at_).take j) (xo T ((ps.drop at_).take j) 0) (ps.drop (at_ + j)) ((Byt.form x hx).append (hb.take _)) ((hb.drop _).take _) (xo_byt T hT _ ((hb.drop _).take _) 0) (hb.drop _) (by rw [xo_length]) (by omega)
      (fun h => hne (fun t ht => by have := xo_same T _ ((hb.drop _).take _) 0 h.symm t (by omega); rwa [Nat.zero_add] at this))
    have e3 : form x ++ ps.take at_ ++ (ps.drop at_).take j ++ ps.drop (at_ + j) = form x ++ ps := by
      rw [List.append_assoc, List.append_assoc, ← List.drop_drop, List.take_append_drop, List.take_append_drop]
    rw [e3] at hcb
    intro h
    apply hcb
    rw [← h]
    simp [List.append_assoc]
  · have hpre : (form ps.length).length + (form x).length = (form ps.length ++ form x).length := by simp
    rw [hpre]
    have e1 : (form ps.length ++ form x ++ hs ++ ps).take (form ps.length ++ form x).length = form ps.length ++ form x := by
      rw [List.append_assoc]; exact List.take_left
    have e2 : (form ps.length ++ form x ++ hs ++ ps).drop (form ps.length ++ form x).length = hs ++ ps := by
      rw [List.append_assoc]; exact List.drop_left
    have e3 : (form ps.length ++ form x ++ hs ++ ps).drop ((form ps.length ++ form x).length + 4) = ps := by
      rw [← List.drop_drop, e2]
      have := List.drop_left (l₁ := hs) (l₂ := ps)
      rwa [hhl] at this
    have e4 : (hs ++ ps).take 4 = hs := by
      have := List.take_left (l₁ := hs) (l₂ := ps)
      rwa [hhl] at this
    unfold flip
    rw [e1, e2, e3, e4]
    refine unf_seven x _ ps hx hp (by rw [xo_length, hhl]) ?_
    intro h
    rw [← hlow] at h
    have g1 := hi_low hs hhb
    have g2 := hi_low (xo T hs 0) (xo_byt T hT hs hhb 0)
    rw [xo_length, ← h, hhl] at g2
    rw [hhl] at g1
    exact hne (fun t ht => by have := xo_same T hs hhb 0 (g2.symm.trans g1) t (by omega); rwa [Nat.zero_add] at this)
end Wire
end Go.Proofs.YthkhemcbkcoliaaDoor
