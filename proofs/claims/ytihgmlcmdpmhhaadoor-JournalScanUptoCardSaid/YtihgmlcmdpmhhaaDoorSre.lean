/- Frames and what is read of them: plain Lean. -/
import Derived.Test.YtihgmlcmdpmhhaaDoorUfr
import Derived.Test.YtihgmlcmdpmhhaaDoorScc
import Derived.Test.YtihgmlcmdpmhhaaDoorDdr
import Derived.Test.YtihgmlcmdpmhhaaDoorApN
import Derived.Deep.QuietTactic
import Derived.BigQuiet
namespace Go.Proofs.YtihgmlcmdpmhhaaDoor
set_option linter.unusedVariables false
set_option linter.unusedSimpArgs false
namespace Wire
theorem frameL_length (x : Nat) (ps : List Int) : (frameL x ps).length = (form ps.length).length + (form x).length + 4 + ps.length := by
  simp [frameL, hi_length, List.length_append]
  omega
theorem unf_frame (x : Nat) (ps l : List Int) (hx : U64 x) (hp : ps.length ≤ 65536) (hb : Byt ps) : unf (frameL x ps ++ l) = (x, ps, (frameL x ps).length, .ok) := by
  have hn : U64 ps.length := by unfold U64; omega
  have e : frameL x ps ++ l = form ps.length ++ (form x ++ (hi (crc (form x ++ ps)) 4 ++ (ps ++ l))) := by simp [frameL, List.append_assoc]
  have hc := crc_lt (form x ++ ps) ((Byt.form x hx).append hb)
  rw [frameL_length, e]
  have h1 := num_form ps.length hn (form x ++ (hi (crc (form x ++ ps)) 4 ++ (ps ++ l)))
  have d1 : (form ps.length ++ (form x ++ (hi (crc (form x ++ ps)) 4 ++ (ps ++ l)))).drop (form ps.length).length = form x ++ (hi (crc (form x ++ ps)) 4 ++ (ps ++ l)) := List.drop_left
  have h2 := num_form x hx (hi (crc (form x ++ ps)) 4 ++ (ps ++ l))
  rw [← d1] at h2
  have d2 : (form ps.length ++ (form x ++ (hi (crc (form x ++ ps)) 4 ++ (ps ++ l)))).drop ((form ps.length).length + (form x).length) = hi (crc (form x ++ ps)) 4 ++ (ps ++ l) := by
    rw [← List.drop_drop, d1]; exact List.drop_left
  have d3 : (form ps.length ++ (form x ++ (hi (crc (form x ++ ps)) 4 ++ (ps ++ l)))).drop ((form ps.length).length + (form x).length + 4) = ps ++ l := by
    rw [← List.drop_drop, d2]
    have := List.drop_left (l₁ := hi (crc (form x ++ ps)) 4) (l₂ := ps ++ l)
    rwa [hi_length] at this
  rw [unf_good h1 (by omega) h2, d1, d2, d3]
  have t1 : (form x ++ (hi (crc (form x ++ ps)) 4 ++ (ps ++ l))).take (form x).length = form x := List.take_left
  have t2 : (hi (crc (form x ++ ps)) 4 ++ (ps ++ l)).take 4 = hi (crc (form x ++ ps)) 4 := by
    have := List.take_left (l₁ := hi (crc (form x ++ ps)) 4) (l₂ := ps ++ l)
    rwa [hi_length] at this
  have t3 : (ps ++ l).take ps.length = ps := List.take_left
  rw [t1, t2, t3, low_hi, if_neg (by simp [hi_length]; omega), if_pos (by omega)]
theorem num_pre (x : Nat) (hx : U64 x) (i : Nat) (hi' : i < (form x).length) : num ((form x).take i) = (0, 0, .no 2) := by
  cases i with
  | zero => rfl
  | succ j =>
    unfold form at hi' ⊢
    split at hi'
    · simp at hi'
    · rename_i h
      rw [if_neg h]
      simp only [List.length_cons, hi_length] at hi'
      rw [List.take_succ_cons, num_cons, if_neg (by omega), if_pos (by rw [List.length_take, hi_length]; omega)]
theorem unf_pre (x : Nat) (ps : List Int) (hx : U64 x) (hp : ps.length ≤ 65536) (i : Nat) (hi' : i < (frameL x ps).length) : unf ((frameL x ps).take i) = (0, [], 0, .no 2) := by
  have hn : U64 ps.length := by unfold U64; omega
  have hl := frameL_length x ps
  have e : frameL x ps = form ps.length ++ (form x ++ (hi (crc (form x ++ ps)) 4 ++ ps)) := by simp [frameL, List.append_assoc]
  by_cases h1 : i < (form ps.length).length
  · rw [e, List.take_append_of_le_length (by omega)]
    exact unf_bad1 (num_pre _ hn i h1) (by simp)
  · have e1 : (frameL x ps).take i = form ps.length ++ (form x ++ (hi (crc (form x ++ ps)) 4 ++ ps)).take (i - (form ps.length).length) := by
      rw [e, List.take_append, List.take_of_length_le (by omega)]
    have hlen : ((frameL x ps).take i).length = i := by rw [List.length_take]; omega
    have n1 := num_form ps.length hn ((form x ++ (hi (crc (form x ++ ps)) 4 ++ ps)).take (i - (form ps.length).length))
    rw [← e1] at n1
    have d1 : ((frameL x ps).take i).drop (form ps.length).length = (form x ++ (hi (crc (form x ++ ps)) 4 ++ ps)).take (i - (form ps.length).length) := by rw [e1]; exact List.drop_left
    by_cases h2 : i - (form ps.length).length < (form x).length
    · have n2 : num (((frameL x ps).take i).drop (form ps.length).length) = (0, 0, .no 2) := by
        rw [d1, List.take_append_of_le_length (by omega)]
        exact num_pre x hx _ h2
      exact unf_bad2 n1 (by omega) n2 (by simp)
    · have n2 : num (((frameL x ps).take i).drop (form ps.length).length) = (x, (form x).length, .ok) := by
        rw [d1, List.take_append, List.take_of_length_le (by omega)]
        exact num_form x hx _
      rw [unf_good n1 (by omega) n2, if_pos (by rw [hlen]; omega)]
theorem unf_is (b : List Int) (hb : Byt b) (x : Nat) (ps : List Int) (k : Nat) (h : unf b = (x, ps, k, .ok)) : U64 x ∧ ps.length ≤ 65536 ∧ Byt ps ∧ k ≤ b.length ∧ frameL x ps = b.take k := by
  obtain ⟨sz, m, e1, he⟩ : ∃ sz m e, num b = (sz, m, e) := ⟨_, _, _, rfl⟩
  by_cases hok : e1 = .ok
  · subst hok
    by_cases hs : 65536 < sz
    · rw [unf_many he hs] at h; simp at h
    · obtain ⟨y, q, e2, he2⟩ : ∃ y q e, num (b.drop m) = (y, q, e) := ⟨_, _, _, rfl⟩
      by_cases hok2 : e2 = .ok
      · subst hok2
        rw [unf_good he hs he2] at h
        split at h
        · simp at h
        · rename_i hlen
          split at h
          · rename_i hcrc
            simp only [Prod.mk.injEq, and_true] at h
            obtain ⟨rfl, hps, rfl⟩ := h
            obtain ⟨u1, t1, l1, g1⟩ := form_num b hb sz m he
            obtain ⟨u2, t2, l2, g2⟩ := form_num (b.drop m) (hb.drop m) y q he2
            rw [List.length_drop] at g2
            have hpl : ps.length = sz := by rw [← hps, List.length_take, List.length_drop]; omega
            have hll : ((b.drop (m + q)).take 4).length = 4 := by rw [List.length_take, List.length_drop]; omega
            have hhl := hi_low ((b.drop (m + q)).take 4) ((hb.drop (m + q)).take 4)
            rw [hll] at hhl
            refine ⟨u2, by omega, by rw [← hps]; exact (hb.drop _).take _, by omega, ?_⟩
            rw [hps, t2] at hcrc
            unfold frameL
            rw [hcrc, hhl, hpl, ← t1, ← t2, ← hps, ← List.take_add, ← List.take_add, ← List.take_add]
          · simp at h
      · rw [unf_bad2 he hs he2 hok2] at h
        simp at h
        exact absurd h.2.2.2 hok2
  · rw [unf_bad1 he hok] at h
    simp at h
    exact absurd h.2.2.2 hok
end Wire
end Go.Proofs.YtihgmlcmdpmhhaaDoor
/- Records' frames, one behind the other, and what a scan makes of a beginning of them: plain. -/
namespace Go.Proofs.YtihgmlcmdpmhhaaDoor
set_option linter.unusedVariables false
set_option linter.unusedSimpArgs false
namespace Jrn
open Wire
def Recs (L : List (List Int)) : Prop := ∀ r ∈ L, r.length ≤ 65536 ∧ Byt r
theorem Recs.tail {r : List Int} {L : List (List Int)} (h : Recs (r :: L)) : Recs L := fun x hx => h x (List.mem_cons_of_mem _ hx)
theorem Recs.head {r : List Int} {L : List (List Int)} (h : Recs (r :: L)) : r.length ≤ 65536 ∧ Byt r := h r (List.mem_cons_self ..)
theorem Recs.take {L : List (List Int)} (h : Recs L) (n : Nat) : Recs (L.take n) := fun x hx => h x (List.mem_of_mem_take hx)
theorem Recs.snoc {L : List (List Int)} (h : Recs L) {r : List Int} (h1 : r.length ≤ 65536) (h2 : Byt r) : Recs (L ++ [r]) := fun x hx => by
  rcases List.mem_append.1 hx with hx | hx
  · exact h x hx
  · rw [List.mem_singleton] at hx; subst hx; exact ⟨h1, h2⟩
/-- The frames of records, the first of which has number k + 1. -/
def frs (k : Nat) : List (List Int) → List Int
  | [] => []
  | r :: rs => frameL (k + 1) r ++ frs (k + 1) rs
theorem frs_append (L M : List (List Int)) : ∀ k, frs k (L ++ M) = frs k L ++ frs (k + L.length) M := by
  induction L with
  | nil => intro k; simp [frs]
  | cons r rs ih => intro k; simp only [List.cons_append, frs, ih, List.append_assoc, List.length_cons]; rw [show k + 1 + rs.length = k + (rs.length + 1) by omega]
theorem frs_snoc (L : List (List Int)) (r : List Int) : frs 0 (L ++ [r]) = frs 0 L ++ frameL (L.length + 1) r := by
  rw [frs_append]; simp [frs]
theorem frs_take (L : List (List Int)) (k j : Nat) : frs k (L.take j) = (frs k L).take (frs k (L.take j)).length := by
  conv => rhs; rw [← List.take_append_drop j L]
  rw [List.take_append_drop, show frs k L = frs k (L.take j ++ L.drop j) by rw [List.take_append_drop], frs_append]
  exact List.take_left.symm
theorem frs_le (L : List (List Int)) (k j : Nat) : (frs k (L.take j)).length ≤ (frs k L).length := by
  rw [frs_take, List.length_take]; omega
theorem frameL_pos (x : Nat) (ps : List Int) : 4 ≤ (frameL x ps).length := by rw [frameL_length]; omega
theorem Byt.frameL {x : Nat} {ps : List Int} (hx : U64 x) (hp : ps.length ≤ 65536) (hb : Byt ps) : Byt (frameL x ps) := by
  unfold Wire.frameL
  exact (((Byt.form _ (by unfold U64; omega)).append (Byt.form _ hx)).append (Byt.hi _ _)).append hb
theorem Byt.frs {L : List (List Int)} : ∀ {k : Nat}, Recs L → k + L.length ≤ 18446744073709551615 → Byt (frs k L) := by
  induction L with
  | nil => intro k _ _ c hc; simp [Jrn.frs] at hc
  | cons r rs ih =>
    intro k h hk
    simp only [List.length_cons] at hk
    exact (Byt.frameL (by unfold U64; omega) h.head.1 h.head.2).append (ih h.tail (by omega))
theorem scanR_nil (f k : Nat) : scanR f k [] = ([], 0, .w .ok) := by cases f <;> simp [scanR]
theorem frs_len_mono (L : List (List Int)) (k : Nat) {i j : Nat} (h : i ≤ j) : (frs k (L.take i)).length ≤ (frs k (L.take j)).length := by
  have := frs_le (L.take j) k i
  rwa [List.take_take, Nat.min_eq_left h] at this
theorem scanR_take (L : List (List Int)) : ∀ (k c f : Nat), Recs L → k + L.length ≤ 18446744073709551615 → ((frs k L).take c).length ≤ f →
    ∃ j e, j ≤ L.length ∧ (frs k (L.take j)).length ≤ c ∧ scanR f k ((frs k L).take c) = (L.take j, (frs k (L.take j)).length, .w e) ∧ (e = .ok ↔ (frs k (L.take j)).length = ((frs k L).take c).length) ∧
      ∀ i, i ≤ L.length → (frs k (L.take i)).length ≤ c → i ≤ j := by
  induction L with
  | nil => intro k c f _ _ _; exact ⟨0, .ok, Nat.le_refl _, by simp [frs], by simp [frs, scanR_nil], by simp [frs], fun i hi _ => hi⟩
  | cons r rs ih =>
    intro k c f h hk hf
    simp only [List.length_cons] at hk
    have hp := frameL_pos (k + 1) r
    by_cases hc : (frameL (k + 1) r).length ≤ c
    · have e1 : (frs k (r :: rs)).take c = frameL (k + 1) r ++ (frs (k + 1) rs).take (c - (frameL (k + 1) r).length) := by
        simp only [frs]; rw [List.take_append, List.take_of_length_le hc]
      rw [e1] at hf ⊢
      rw [List.length_append] at hf
      obtain ⟨g, rfl⟩ : ∃ g, f = g + 1 := ⟨f - 1, by omega⟩
      obtain ⟨j, e, h1, h2, h3, h4, h5⟩ := ih (k + 1) (c - (frameL (k + 1) r).length) g h.tail (by omega) (by omega)
      refine ⟨j + 1, e, by simp; omega, by simp only [List.take_succ_cons, frs, List.length_append]; omega, ?_, ?_, ?_⟩
      · conv => lhs; unfold scanR
        rw [if_neg (by rw [List.length_append]; omega), unf_frame (k + 1) r _ (by unfold U64; omega) h.head.1 h.head.2]
        simp only [if_true, List.drop_left]
        rw [h3]
        simp [frs]
      · rw [h4]
        simp only [List.take_succ_cons, frs, List.length_append]
        omega
      · intro i hi hic
        cases i with
        | zero => omega
        | succ i =>
          simp only [List.take_succ_cons, frs, List.length_append, List.length_cons] at hic hi
          have := h5 i (by omega) (by omega)
          omega
    · have e1 : (frs k (r :: rs)).take c = (frameL (k + 1) r).take c := by
        simp only [frs]; rw [List.take_append_of_le_length (by omega)]
      rw [e1] at hf ⊢
      have hl : ((frameL (k + 1) r).take c).length = c := by rw [List.length_take]; omega
      have h6 : ∀ i, i ≤ (r :: rs).length → (frs k ((r :: rs).take i)).length ≤ c → i ≤ 0 := by
        intro i hi hic
        cases i with
        | zero => omega
        | succ i => simp only [List.take_succ_cons, frs, List.length_append] at hic; omega
      by_cases h0 : c = 0
      · subst h0
        exact ⟨0, .ok, by omega, by simp [frs], by simp [frs, scanR_nil], by simp [frs], h6⟩
      · obtain ⟨g, rfl⟩ : ∃ g, f = g + 1 := ⟨f - 1, by omega⟩
        refine ⟨0, .no 2, by omega, by simp [frs], ?_, ?_, h6⟩
        · conv => lhs; unfold scanR
          rw [if_neg (by omega), unf_pre (k + 1) r (by unfold U64; omega) h.head.1 c (by omega)]
          simp [frs]
        · simp [frs, hl]; omega
theorem scan_take (L : List (List Int)) (c : Nat) (h : Recs L) (hk : L.length ≤ 18446744073709551615) :
    ∃ j e, j ≤ L.length ∧ (frs 0 (L.take j)).length ≤ c ∧ scan ((frs 0 L).take c) = (L.take j, (frs 0 (L.take j)).length, .w e) ∧ (e = .ok ↔ (frs 0 (L.take j)).length = ((frs 0 L).take c).length) ∧
      ∀ i, i ≤ L.length → (frs 0 (L.take i)).length ≤ c → i ≤ j := scanR_take L 0 c _ h (by omega) (Nat.le_refl _)
theorem scan_frs (L : List (List Int)) (h : Recs L) (hk : L.length ≤ 18446744073709551615) : scan (frs 0 L) = (L, (frs 0 L).length, .w .ok) := by
  obtain ⟨j, e, h1, h2, h3, h4, h5⟩ := scan_take L (frs 0 L).length h hk
  have := h5 L.length (Nat.le_refl _) (by rw [List.take_of_length_le (Nat.le_refl _)]; exact Nat.le_refl _)
  have hj : j = L.length := by omega
  subst hj
  rw [List.take_of_length_le (Nat.le_refl _), List.take_of_length_le (Nat.le_refl _)] at h3 h4
  rw [h3, h4.2 rfl]
end Jrn
end Go.Proofs.YtihgmlcmdpmhhaaDoor
/- A journal on a disk: what Open, Append and Sync make of it: plain. -/
namespace Go.Proofs.YtihgmlcmdpmhhaaDoor
set_option linter.unusedVariables false
set_option linter.unusedSimpArgs false
namespace Jrn
open Go.RowKit Mem Apn Wire
theorem scanR_fits : ∀ (f k : Nat) (b : List Int), Byt b → (scanR f k b).2.1 ≤ b.length ∧ (scanR f k b).1.length ≤ (scanR f k b).2.1 ∧ Recs (scanR f k b).1
  | 0, _, _, _ => ⟨Nat.zero_le _, Nat.le_refl _, fun _ h => by simp [scanR] at h⟩
  | f + 1, k, b, hb => by
    unfold scanR
    split
    · exact ⟨Nat.zero_le _, Nat.le_refl _, fun _ h => by simp at h⟩
    · obtain ⟨x, ps, n, e, hu⟩ : ∃ x ps n e, unf b = (x, ps, n, e) := ⟨_, _, _, _, rfl⟩
      rw [hu]
      cases e with
      | ok =>
        obtain ⟨h1, h2, h3, h4⟩ := unf_fits b hb x ps n hu
        have h5 := scanR_fits f (k + 1) (b.drop n) (fun c hc => hb c (List.mem_of_mem_drop hc))
        rw [List.length_drop] at h5
        simp only
        split
        · refine ⟨by simp only; omega, by simp only [List.length_cons]; omega, ?_⟩
          intro r hr
          simp only [List.mem_cons] at hr
          rcases hr with rfl | hr
          · exact ⟨h3, h4⟩
          · exact h5.2.2 r hr
        · exact ⟨Nat.zero_le _, Nat.le_refl _, fun _ h => by simp at h⟩
      | no j => exact ⟨Nat.zero_le _, Nat.le_refl _, fun _ h => by simp at h⟩
      | ref s j => exact ⟨Nat.zero_le _, Nat.le_refl _, fun _ h => by simp at h⟩
theorem scan_fits (b : List Int) (hb : Byt b) : (scan b).2.1 ≤ b.length ∧ (scan b).1.length ≤ (scan b).2.1 ∧ Recs (scan b).1 := scanR_fits _ _ _ hb
/-- A journal: how often the disk's power had failed, how many records there are, how many are durable. -/
structure JS where
  fl : Nat
  last : Nat
  synced : Nat
def syncd (s : DS) : DS := ⟨s.B, s.B, s.B.length, s.dead, s.failed, s.inn, s.keep⟩
def wAppend : ByteArray := ⟨#[97, 112, 112, 101, 110, 100]⟩
def wRead : ByteArray := ⟨#[114, 101, 97, 100]⟩
def wCut : ByteArray := ⟨#[99, 117, 116]⟩
def wSync : ByteArray := ⟨#[115, 121, 110, 99]⟩
/-- Open's cut: the disk, and whether the power failed. -/
def openC (s : DS) : DS × Bool := if (scan s.B).2.1 < s.B.length then doesS (cutS s (scan s.B).2.1) else (s, false)
/-- Open: the disk; whether it went well. -/
def openS (s : DS) : DS × Bool :=
  if s.dead then (s, false) else if (openC s).2 then ((openC s).1, false)
  else if (doesS (openC s).1).2 then ((doesS (openC s).1).1, false) else (syncd (doesS (openC s).1).1, true)
def openE (s : DS) : Value :=
  if s.dead then deadV wRead else if (openC s).2 then deadV wCut
  else if (doesS (openC s).1).2 then deadV wSync else .nilIface
def openJ (s : DS) : JS := ⟨(openS s).1.failed, (scan s.B).1.length, (scan s.B).1.length⟩
def writeOk (s : DS) (b : List Int) : Bool := !s.dead && decide (s.B.length + b.length ≤ 67108864) && !(doesS (addS s b)).2
theorem writeOk_ok {s : DS} {b : List Int} (h : writeOk s b = true) : (writeS s b).2 = .nilIface := by
  unfold writeOk at h
  simp only [Bool.and_eq_true, Bool.not_eq_true', decide_eq_true_eq] at h
  unfold writeS
  rw [if_neg (by simp [h.1.1]), if_neg (by omega), h.2]
  rfl
theorem writeOk_no {s : DS} {b : List Int} (h : writeOk s b = false) : ∃ T v, (writeS s b).2 = .iface T v := by
  unfold writeS
  split
  · exact ⟨_, _, rfl⟩
  · split
    · exact ⟨_, _, rfl⟩
    · rename_i h1 h2
      unfold writeOk at h
      have h3 : (doesS (addS s b)).2 = true := by
        have h4 : s.dead = false := by simpa using h1
        have h5 : s.B.length + b.length ≤ 67108864 := by omega
        rw [h4, decide_eq_true h5] at h
        simpa using h
      rw [h3]
      exact ⟨_, _, rfl⟩
def syncOk (s : DS) : Bool := !s.dead && !(doesS s).2
theorem syncOk_ok {s : DS} (h : syncOk s = true) : (syncS s).2 = .nilIface ∧ (syncS s).1 = syncd (doesS s).1 := by
  unfold syncOk at h
  simp only [Bool.and_eq_true, Bool.not_eq_true'] at h
  unfold syncS
  rw [if_neg (by simp [h.1])]
  obtain ⟨a, b, hd⟩ : ∃ a b, doesS s = (a, b) := ⟨_, _, rfl⟩
  rw [hd] at h ⊢
  simp only at h
  rw [h.2]
  exact ⟨rfl, rfl⟩
theorem syncOk_no {s : DS} (h : syncOk s = false) : (syncS s).2 = deadV wSync := by
  unfold syncS
  split
  · rfl
  · rename_i h1
    unfold syncOk at h
    have h4 : s.dead = false := by simpa using h1
    obtain ⟨a, b, hd⟩ : ∃ a b, doesS s = (a, b) := ⟨_, _, rfl⟩
    rw [h4, hd] at h
    rw [hd]
    have : b = true := by simpa using h
    rw [this]
    rfl
/-- Append. -/
def appS (s : DS) (j : JS) (r : List Int) : DS × JS × Int × Value :=
  if ¬ s.failed = j.fl then (s, j, 0, deadV wAppend)
  else if 65536 < r.length then (s, j, 0, Er.enc (.ref wPayload 5))
  else if writeOk s (frameL (j.last + 1) r) then ((writeS s (frameL (j.last + 1) r)).1, ⟨j.fl, j.last + 1, j.synced⟩, j.last + 1, .nilIface)
  else ((writeS s (frameL (j.last + 1) r)).1, j, 0, (writeS s (frameL (j.last + 1) r)).2)
/-- Sync. -/
def jsyncS (s : DS) (j : JS) : DS × JS × Int × Value :=
  if ¬ s.failed = j.fl then (s, j, 0, .iface 50 (.int .i64 23))
  else if syncOk s then ((syncS s).1, ⟨j.fl, j.last, j.last⟩, j.last, .nilIface)
  else ((syncS s).1, j, 0, (syncS s).2)
end Jrn
end Go.Proofs.YtihgmlcmdpmhhaaDoor
/- Rows of rows of bytes, read; SameRecords: walked. -/
namespace Go.Proofs.YtihgmlcmdpmhhaaDoor
set_option linter.unusedVariables false
set_option linter.unusedSimpArgs false
namespace Jrn
open Go.RowKit Mem Apn Wire
/-- A slice of slices of bytes that reads as these rows. -/
structure RdR (w : World) (ok : Nat → Prop) (A : Option Addr) (n : Nat) (xs : List (List Int)) : Prop where
  len : xs.length = n
  ex : ∃ V : Nat → Value, RdV w ok 1 A n ((List.range n).map V) ∧ ∀ j, j < n → ∃ a c, V j = .slice a (xs.getD j []).length c ∧ (xs.getD j []).length ≤ c ∧ RdN w ok .u8 a (xs.getD j []).length (xs.getD j [])
theorem RdR.keep {w w' : World} {ok : Nat → Prop} {A : Option Addr} {n : Nat} {xs : List (List Int)} (h : RdR w ok A n xs) {S : Nat → Prop} (hk : Keep S w w') (hs : ∀ k, ok k → ¬ S k) : RdR w' ok A n xs := by
  obtain ⟨V, h1, h2⟩ := h.ex
  exact ⟨h.len, V, h1.keep hk hs, fun j hj => by obtain ⟨a, c, e, hc, hr⟩ := h2 j hj; exact ⟨a, c, e, hc, hr.keep hk hs⟩⟩
theorem RdR.mono {w : World} {ok ok' : Nat → Prop} {A : Option Addr} {n : Nat} {xs : List (List Int)} (h : RdR w ok A n xs) (hs : ∀ k, ok k → ok' k) : RdR w ok' A n xs := by
  obtain ⟨V, h1, h2⟩ := h.ex
  exact ⟨h.len, V, h1.mono hs, fun j hj => by obtain ⟨a, c, e, hc, hr⟩ := h2 j hj; exact ⟨a, c, e, hc, RdV.mono hr hs⟩⟩
theorem RdR.drewN {w : World} {ok : Nat → Prop} {A : Option Addr} {n : Nat} {xs : List (List Int)} (h : RdR w ok A n xs) (m : Nat) : RdR (w.drewN m) ok A n xs :=
  h.keep ((Keep.refl (fun _ => False) w).drewN m) (fun _ _ h => h)
theorem RdR.at_ {w : World} {ok : Nat → Prop} {A : Option Addr} {n : Nat} {xs : List (List Int)} (h : RdR w ok A n xs) {j : Nat} (hj : j < n) :
    ∃ ad a c, A = some ad ∧ w.cell? (ad.add j) = some (.slice a (xs.getD j []).length c) ∧ (xs.getD j []).length ≤ c ∧ RdN w ok .u8 a (xs.getD j []).length (xs.getD j []) := by
  obtain ⟨V, h1, h2⟩ := h.ex
  obtain ⟨ad, e, _, hc⟩ := h1.2 (by omega)
  obtain ⟨a, c, ev, hc2, hr⟩ := h2 j hj
  refine ⟨ad, a, c, e, ?_, hc2, hr⟩
  rw [← ev]
  exact hc j _ (by rw [List.getElem?_map, List.getElem?_range hj]; rfl)
theorem RdR.front {w : World} {ok : Nat → Prop} {A : Option Addr} {n m : Nat} {xs : List (List Int)} (h : RdR w ok A n xs) (hm : m ≤ n) : RdR w ok A m (xs.take m) := by
  obtain ⟨V, h1, h2⟩ := h.ex
  refine ⟨by rw [List.length_take, h.len]; omega, V, ?_, fun j hj => ?_⟩
  · have := RdV.front h1 (k := m) hm
    rw [← List.map_take, List.take_range] at this
    rwa [Nat.mul_one, Nat.min_eq_left hm] at this
  · have e : (xs.take m).getD j [] = xs.getD j [] := by
      rw [List.getD_eq_getElem?_getD, List.getD_eq_getElem?_getD, List.getElem?_take, if_pos hj]
    rw [e]
    exact h2 j (by omega)
theorem Rows.rd {w : World} {base : Nat} {v : Value} {xs : List (List Int)} (h : Rows w base v xs) : ∃ A c, v = .slice A xs.length c ∧ xs.length ≤ c ∧ RdR w (fun k => base ≤ k ∧ k < w.heap.size) A xs.length xs := by
  obtain ⟨V, h1, h2, h3⟩ := h.ex
  obtain ⟨A, c, rfl, hc, hr⟩ := RdV.of_own h1
  refine ⟨A, c, rfl, hc, rfl, V, hr.mono (fun k e => ⟨own_ge h1 k e, own_lt h1 k e⟩), fun j hj => ?_⟩
  have h4 := h2 j hj
  obtain ⟨a, c', e, hc', hr'⟩ := RdN.of_own h4
  have ej : xs.getD j [] = xs[j] := by rw [List.getD_eq_getElem?_getD, List.getElem?_eq_getElem hj]; rfl
  rw [ej]
  exact ⟨a, c', e, hc', RdV.mono hr' (fun k e => ⟨own_ge h4 k e, own_lt h4 k e⟩)⟩
theorem quiet_add {P : Program} {f : FuncId} {args : Array Value} {w : World} {a n : Nat} {v : Value}
    (h : Calls P f args (w.drewN (a + n)) fun e w' => e = .returned v ∧ ∃ m, w' = (w.drewN (a + n)).drewN m) :
    Calls P f args (w.drewN (a + n)) fun e w'' => e = .returned v ∧ ∃ m, w'' = w.drewN (a + m) :=
  h.mono fun _ _ ⟨he, m, hm⟩ => ⟨he, n + m, by rw [hm, World.drewN_drewN, Nat.add_assoc]⟩
set_option maxHeartbeats 2000000 in
set_option maxRecDepth 100000 in
theorem samerec_any (ok ok' : Nat → Prop) (A A' : Option Addr) (n n' c c' : Nat) (xs ys : List (List Int)) (w : World) (hr : RdR w ok A n xs) (hr' : RdR w ok' A' n' ys) (hl : n ≤ 9223372036854775807) (hl' : n' ≤ 9223372036854775807)
    (hx : ∀ r ∈ xs, r.length ≤ 9223372036854775807) (hy : ∀ r ∈ ys, r.length ≤ 9223372036854775807) :
    Calls Tryd.prog 8 #[.slice A n c, .slice A' n' c'] w fun e w' => e = .returned (.bool (decide (xs = ys))) ∧ ∃ m, w' = w.drewN m := by
  have h1 := Held.mk hr.len
  have h2 := Held.mk hr'.len
  have Hr := Held.mk hr
  have Hr' := Held.mk hr'
  have Hx := Held.mk hx
  have Hy := Held.mk hy
  clear hr hr' hx hy
  by_cases hn : n = n'
  · subst hn
    have h0 : ((n : Int) != n) = false := by simp
    go_enter Tryd.func8, Tryd.ntmps8
    go_wp2
    go_loopw [5] (fun i wr => ∃ k m : Nat, i = .int .i64 k ∧ k ≤ n ∧ Held (xs.take k = ys.take k) ∧ wr = w.drewN m) (fun i _ => n - (intOf i).toNat)
    case atStart => exact ⟨0, 0, rfl, Nat.zero_le _, ⟨rfl⟩, rfl⟩
    case round =>
      obtain ⟨k, m, rfl, hk, he, rfl⟩ := hrel
      by_cases hlt : k < n
      · obtain ⟨ad1, a1, d1, rfl, hc1, hd1, hr1⟩ := Hr.out.at_ hlt
        obtain ⟨ad2, a2, d2, rfl, hc2, hd2, hr2⟩ := Hr'.out.at_ hlt
        have hk1 : (k : Int) < n := by omega
        have ex : xs.take (k + 1) = xs.take k ++ [xs.getD k []] := by
          rw [List.take_succ_eq_append_getElem (by rw [h1.out]; exact hlt), List.getD_eq_getElem?_getD, List.getElem?_eq_getElem (by rw [h1.out]; exact hlt)]; rfl
        have ey : ys.take (k + 1) = ys.take k ++ [ys.getD k []] := by
          rw [List.take_succ_eq_append_getElem (by rw [h2.out]; exact hlt), List.getD_eq_getElem?_getD, List.getElem?_eq_getElem (by rw [h2.out]; exact hlt)]; rfl
        have lx : (xs.getD k []).length ≤ 9223372036854775807 := by
          rw [List.getD_eq_getElem?_getD, List.getElem?_eq_getElem (by rw [h1.out]; exact hlt)]; exact Hx.out _ (List.getElem_mem _)
        have ly : (ys.getD k []).length ≤ 9223372036854775807 := by
          rw [List.getD_eq_getElem?_getD, List.getElem?_eq_getElem (by rw [h2.out]; exact hlt)]; exact Hy.out _ (List.getElem_mem _)
        have HC1 := Held.mk (fun M => Kit.same_any ok ok' a1 a2 _ _ d1 d2 (xs.getD k []) (ys.getD k []) (w.drewN M) (hr1.keep ((Keep.refl (fun _ => False) w).drewN M) (fun _ _ h => h)) (hr2.keep ((Keep.refl (fun _ => False) w).drewN M) (fun _ _ h => h)) lx ly)
        clear hr1 hr2 hd1 hd2 lx ly
        generalize xs.getD k [] = a at *
        generalize ys.getD k [] = b at *
        have Ex := Held.mk ex
        have Ey := Held.mk ey
        obtain ⟨l1, hl1⟩ : ∃ l, a.length = l := ⟨_, rfl⟩
        obtain ⟨l2, hl2⟩ : ∃ l, b.length = l := ⟨_, rfl⟩
        simp only [hl1] at HC1 hc1
        simp only [hl2] at HC1 hc2
        clear ex ey hl1 hl2
        by_cases hab : a = b
        · have HE := Held.mk hab
          simp only [decide_eq_true hab] at HC1
          clear hab
          go_wp2
          go_quiet ((go_at_call 20; first | exact Calls.quiet_of (HC1.out _) | exact quiet_add (HC1.out _)))
          go_wp2
          go_roundw
          case rel => exact ⟨k + 1, _, by go_num, by omega, ⟨by rw [Ex.out, Ey.out, he.out, HE.out]⟩, by first | rfl | exact World.drewN_drewN ..⟩
          case measure => simp [intOf]; omega
        · have hfin : Held (decide (xs = ys) = false) := ⟨by
            simp only [decide_eq_false_iff_not]
            intro e
            have := Ex.out.symm.trans ((congrArg (·.take (k + 1)) e).trans Ey.out)
            simp at this
            exact hab this.2⟩
          simp only [decide_eq_false hab] at HC1
          clear hab
          go_wp2
          go_quiet ((go_at_call 20; first | exact Calls.quiet_of (HC1.out _) | exact quiet_add (HC1.out _)))
          go_wp2
          go_ret
          rw [hfin.out]
          exact ⟨rfl, _, by first | rfl | exact World.drewN_drewN ..⟩
      · go_wp2
        go_ret
        have : xs = ys := by
          have := he.out
          rwa [List.take_of_length_le (by rw [h1.out]; omega), List.take_of_length_le (by rw [h2.out]; omega)] at this
        rw [this]
        exact ⟨by simp, _, rfl⟩
  · have h0 : ((n : Int) != n') = true := by rw [bne_iff_ne]; omega
    have hfin : Held (decide (xs = ys) = false) := ⟨by
      simp only [decide_eq_false_iff_not]
      intro e
      apply hn
      rw [← h1.out, ← h2.out, e]⟩
    go_enter Tryd.func8, Tryd.ntmps8
    go_wp2
    go_ret
    rw [hfin.out]
    exact ⟨rfl, 0, rfl⟩
end Jrn
end Go.Proofs.YtihgmlcmdpmhhaaDoor
