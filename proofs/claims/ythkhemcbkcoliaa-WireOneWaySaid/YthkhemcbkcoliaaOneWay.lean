/- WireOneWay: bytes that a row of reads takes to their end are those that a writer writes of what was read: for every bytes and every row; no condition. -/
import Derived.Test.YthkhemcbkcoliaaLay
import Derived.Test.YthkhemcbkcoliaaKept
import Derived.Test.YthkhemcbkcoliaaRow
import Derived.Test.YthkhemcbkcoliaaRows
namespace Go.Proofs.Ythkhemcbkcoliaa
set_option linter.unusedVariables false
namespace Wire
open Go.RowKit Mem Kit

set_option maxHeartbeats 1000000 in
set_option maxRecDepth 100000 in
theorem pick_any (k n : Int) (w : World) (hk : I64 k) (hn : 1 ≤ n) (hn2 : n ≤ 1000000000000) : Calls Try.prog 23 #[.int .i64 k, .int .i64 n] w fun e w' => e = .returned (.int .i64 (k % n)) ∧ w = w' := by
  unfold I64 at hk
  go_enter Try.func23, Try.ntmps23
  by_cases h0 : 0 ≤ k
  · have e : k.tmod n = k % n := Int.tmod_eq_emod_of_nonneg h0
    have h1 := Int.emod_nonneg k (show n ≠ 0 by omega)
    have h2 := Int.emod_lt_of_pos k (show 0 < n by omega)
    generalize k % n = r at *
    go_wp2
    go_ret
    exact ⟨rfl, rfl⟩
  · by_cases hd : n ∣ k
    · have e : k.tmod n = 0 := by rw [Int.tmod_eq_emod, if_pos (.inr hd), Int.emod_eq_zero_of_dvd hd]; rfl
      have e2 : k % n = 0 := Int.emod_eq_zero_of_dvd hd
      have Hd := Held.mk hd
      clear hd
      rw [e2]
      clear e2
      go_wp2
      go_ret
      exact ⟨rfl, rfl⟩
    · have e : k.tmod n = k % n - n := by rw [Int.tmod_eq_emod, if_neg (fun h => h.elim h0 hd)]; omega
      have h1 := Int.emod_nonneg k (show n ≠ 0 by omega)
      have h2 := Int.emod_lt_of_pos k (show 0 < n by omega)
      have h3 : k % n ≠ 0 := fun h => hd (Int.dvd_of_emod_eq_zero h)
      clear hd
      generalize k % n = r at *
      have h4 : r - n < 0 := by omega
      go_wp2
      go_ret
      exact ⟨by first | rfl | (congr 2; omega), rfl⟩

/-- What has been written of bs: behind an error anything. -/
def Sofar (bs ys : List Int) (s : RS) : Prop := s.er = .ok → ys ++ s.xs = bs
theorem sofar0 (bs ys : List Int) (s : RS) (hb : Byt s.xs) (h : Sofar bs ys s) : Sofar bs (ys ++ form (uintM s 18446744073709551615).1) (uintM s 18446744073709551615).2 := by
  have hU := peekM_U64 s hb
  have hn : ¬ 18446744073709551615 < (peekM s).1 := by unfold U64 at hU; omega
  unfold uintM
  rw [if_neg hn]
  intro he
  simp only at he ⊢
  cases hs : s.er with
  | ok =>
    have hp : peekM s = num s.xs := by unfold peekM; rw [hs]
    rw [hp] at he ⊢
    obtain ⟨h1, h2, h3, h4⟩ := form_num s.xs hb (num s.xs).1 (num s.xs).2.1 (by rw [← he])
    rw [← h2, List.append_assoc, List.take_append_drop]
    exact h hs
  | no n => unfold peekM at he; rw [hs] at he; cases he
  | ref a b => unfold peekM at he; rw [hs] at he; cases he
theorem sofar1 (bs ys : List Int) (s : RS) (hb : Byt s.xs) (h : Sofar bs ys s) : Sofar bs (ys ++ form (zig (intM s).1)) (intM s).2 := by
  unfold intM
  intro he
  simp only at he ⊢
  rw [zig_unzig]
  cases hs : s.er with
  | ok =>
    have hp : peekM s = num s.xs := by unfold peekM; rw [hs]
    rw [hp] at he ⊢
    obtain ⟨h1, h2, h3, h4⟩ := form_num s.xs hb (num s.xs).1 (num s.xs).2.1 (by rw [← he])
    rw [← h2, List.append_assoc, List.take_append_drop]
    exact h hs
  | no n => unfold peekM at he; rw [hs] at he; cases he
  | ref a b => unfold peekM at he; rw [hs] at he; cases he
theorem bts_str (l : List Int) (h : Byt l) : bts (strOfNums l) = l := by
  unfold bts strOfNums
  simp only [List.map_map]
  conv => rhs; rw [← List.map_id l]
  apply List.map_congr_left
  intro c hc
  have := h c hc
  simp
  omega
theorem sofar2 (bs ys : List Int) (s : RS) (most : Int) (hb : Byt s.xs) (h : Sofar bs ys s) : Sofar bs (ys ++ (form (strOfNums (textM s most).1).size ++ bts (strOfNums (textM s most).1))) (textM s most).2 := by
  have hle := peekM_le s
  unfold textM
  split
  · intro he
    simp only at he
    cases hp : (peekM s).2.2 <;> rw [hp] at he <;> cases he
  · split
    · intro he
      simp only at he
      cases hp : (peekM s).2.2 <;> rw [hp] at he <;> cases he
    · rename_i h1 h2
      intro he
      simp only at he ⊢
      cases hs : s.er with
      | ok =>
        have hp : peekM s = num s.xs := by unfold peekM; rw [hs]
        rw [hp] at he h2 hle ⊢
        obtain ⟨h3, h4, h5, h6⟩ := form_num s.xs hb (num s.xs).1 (num s.xs).2.1 (by rw [← he])
        have hl : ((s.xs.drop (num s.xs).2.1).take (num s.xs).1).length = (num s.xs).1 := by rw [List.length_take, List.length_drop]; omega
        rw [bts_str _ ((hb.drop _).take _), strOfNums_size, hl, ← h4, ← List.drop_drop, List.append_assoc, List.append_assoc, List.take_append_drop, List.take_append_drop]
        exact h hs
      | no n => unfold peekM at he; rw [hs] at he; cases he
      | ref a b => unfold peekM at he; rw [hs] at he; cases he
theorem form0 : (form 0).length = 1 := by decide
theorem zig0 : zig 0 = 0 := by decide
theorem peek_bad (s : RS) (h : (peekM s).2.2 ≠ .ok) : (peekM s).1 = 0 ∧ (peekM s).2.1 = 0 := by
  unfold peekM at h ⊢
  split
  · rename_i e
    rw [e] at h
    exact num_bad s.xs h
  · exact ⟨rfl, rfl⟩
theorem sofar_len {s s' : RS} {l : List Int} (h : ∀ bs ys, Sofar bs ys s → Sofar bs (ys ++ l) s') (he : s'.er = .ok) (hs : s.er = .ok) : l.length + s'.xs.length = s.xs.length := by
  have := h s.xs [] (fun _ => rfl) he
  rw [List.nil_append] at this
  rw [← this, List.length_append]
theorem len0 (s : RS) (hb : Byt s.xs) : (form (uintM s 18446744073709551615).1).length + (uintM s 18446744073709551615).2.xs.length ≤ s.xs.length + 1 := by
  have hU := peekM_U64 s hb
  have hn : ¬ 18446744073709551615 < (peekM s).1 := by unfold U64 at hU; omega
  by_cases hp : (peekM s).2.2 = .ok
  · have he : (uintM s 18446744073709551615).2.er = .ok := by unfold uintM; rw [if_neg hn]; exact hp
    have hs : s.er = .ok := by
      unfold peekM at hp
      cases h : s.er <;> rw [h] at hp <;> first | rfl | cases hp
    have := sofar_len (fun bs ys h => sofar0 bs ys s hb h) he hs
    omega
  · obtain ⟨h1, h2⟩ := peek_bad s hp
    unfold uintM
    rw [if_neg hn, h1, h2, form0]
    simp; omega
theorem len1 (s : RS) (hb : Byt s.xs) : (form (zig (intM s).1)).length + (intM s).2.xs.length ≤ s.xs.length + 1 := by
  by_cases hp : (peekM s).2.2 = .ok
  · have he : (intM s).2.er = .ok := by unfold intM; exact hp
    have hs : s.er = .ok := by
      unfold peekM at hp
      cases h : s.er <;> rw [h] at hp <;> first | rfl | cases hp
    have := sofar_len (fun bs ys h => sofar1 bs ys s hb h) he hs
    omega
  · obtain ⟨h1, h2⟩ := peek_bad s hp
    unfold intM
    rw [h1, h2]
    simp only
    rw [zig_unzig, form0]
    simp; omega
theorem len2 (s : RS) (most : Int) (hb : Byt s.xs) : (form (strOfNums (textM s most).1).size ++ bts (strOfNums (textM s most).1)).length + (textM s most).2.xs.length ≤ s.xs.length + 1 := by
  have hnil : (form (strOfNums []).size ++ bts (strOfNums [])).length = 1 := by decide
  by_cases h1 : (max most 0).toNat < (peekM s).1
  · unfold textM
    rw [if_pos h1]
    simp only
    rw [hnil]; omega
  · by_cases h2 : s.xs.length - (peekM s).2.1 < (peekM s).1
    · unfold textM
      rw [if_neg h1, if_pos h2]
      simp only
      rw [hnil]; omega
    · by_cases hp : (peekM s).2.2 = .ok
      · have he : (textM s most).2.er = .ok := by unfold textM; rw [if_neg h1, if_neg h2]; exact hp
        have hs : s.er = .ok := by
          unfold peekM at hp
          cases h : s.er <;> rw [h] at hp <;> first | rfl | cases hp
        have := sofar_len (fun bs ys h => sofar2 bs ys s most hb h) he hs
        omega
      · obtain ⟨h3, h4⟩ := peek_bad s hp
        unfold textM
        rw [if_neg h1, if_neg h2, h3, h4]
        simp only [List.take_zero]
        rw [hnil]
        simp; omega

/-- One read: what came out, and what it leaves. -/
structure One (s : RS) (l : List Int) (s' : RS) : Prop where
  so : ∀ bs ys, Sofar bs ys s → Sofar bs (ys ++ l) s'
  len : l.length + s'.xs.length ≤ s.xs.length + 1
theorem oneU (ok : Nat → Prop) (B : Nat) (A : Option Addr) (n c : Nat) (s : RS) (w : World) (h : Rdr w ok B A n c s) :
    Calls Try.prog 18 #[.pointer (some ⟨B, 0, none⟩), .int .u64 18446744073709551615] w fun e w' => ∃ (x : Nat) (s' : RS) (A' : Option Addr) (n' c' : Nat), e = .returned (.int .u64 x) ∧ U64 x ∧ Held (Rdr w' ok B A' n' c' s') ∧ Held (Keep (fun k => k = B) w w') ∧ Held (One s (form x) s') := by
  refine (ruint_any ok B A n c s 18446744073709551615 w h).mono ?_
  rintro e w' ⟨rfl, ⟨A', n', c', hr⟩, hk⟩
  refine ⟨_, _, A', n', c', rfl, ?_, ⟨hr⟩, ⟨hk⟩, ⟨fun bs ys => sofar0 bs ys s h.byt, len0 s h.byt⟩⟩
  have hU := peekM_U64 s h.byt
  have hn : ¬ 18446744073709551615 < (peekM s).1 := by unfold U64 at hU; omega
  unfold uintM
  rw [if_neg hn]
  exact hU
theorem oneI (ok : Nat → Prop) (B : Nat) (A : Option Addr) (n c : Nat) (s : RS) (w : World) (h : Rdr w ok B A n c s) :
    Calls Try.prog 19 #[.pointer (some ⟨B, 0, none⟩)] w fun e w' => ∃ (x : Int) (s' : RS) (A' : Option Addr) (n' c' : Nat), e = .returned (.int .i64 x) ∧ I64 x ∧ Held (Rdr w' ok B A' n' c' s') ∧ Held (Keep (fun k => k = B) w w') ∧ Held (One s (form (zig x)) s') := by
  refine (rint_any ok B A n c s w h).mono ?_
  rintro e w' ⟨rfl, ⟨A', n', c', hr⟩, hk⟩
  refine ⟨_, _, A', n', c', rfl, ?_, ⟨hr⟩, ⟨hk⟩, ⟨fun bs ys => sofar1 bs ys s h.byt, len1 s h.byt⟩⟩
  have hU := peekM_U64 s h.byt
  unfold intM
  unfold U64 at hU
  unfold I64 unzig
  simp only
  split <;> omega
theorem oneT (ok : Nat → Prop) (B : Nat) (A : Option Addr) (n c : Nat) (s : RS) (w : World) (h : Rdr w ok B A n c s) :
    Calls Try.prog 20 #[.pointer (some ⟨B, 0, none⟩), .int .i64 1073741824] w fun e w' => ∃ (x : ByteArray) (s' : RS) (A' : Option Addr) (n' c' : Nat), e = .returned (.string x) ∧ x.size ≤ s.xs.length ∧ Held (Rdr w' ok B A' n' c' s') ∧ Held (Keep (fun k => k = B) w w') ∧ Held (One s (form x.size ++ bts x) s') := by
  refine (rtext_any ok B A n c s 1073741824 w (by unfold I64; omega) h).mono ?_
  rintro e w' ⟨rfl, ⟨A', n', c', hr⟩, hk⟩
  have h2 := len2 s 1073741824 h.byt
  refine ⟨_, _, A', n', c', rfl, ?_, ⟨hr⟩, ⟨hk⟩, ⟨fun bs ys => sofar2 bs ys s _ h.byt, h2⟩⟩
  rw [List.length_append, bts_length] at h2
  have h3 := form_pos (strOfNums (textM s 1073741824).1).size
  omega

theorem end_ok (s : RS) (h : endM s = .ok) : s.er = .ok ∧ s.xs = [] := by
  unfold endM at h
  cases hs : s.er with
  | ok =>
    rw [hs] at h
    simp only at h
    split at h
    · rename_i h0; exact ⟨rfl, List.eq_nil_of_length_eq_zero h0⟩
    · cases h
  | no n => rw [hs] at h; cases h
  | ref a b => rw [hs] at h; cases h
end Wire
end Go.Proofs.Ythkhemcbkcoliaa
