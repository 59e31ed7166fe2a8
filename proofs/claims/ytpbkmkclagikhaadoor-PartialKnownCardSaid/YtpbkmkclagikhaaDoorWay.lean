/- Parts together; a row of calls. -/
import Derived.Test.YtpbkmkclagikhaaDoorTak
import Derived.Test.YtpbkmkclagikhaaDoorOpen
namespace Go.Proofs.YtpbkmkclagikhaaDoor
set_option linter.unusedVariables false
set_option linter.unusedSimpArgs false
namespace Prt
open Go.RowKit Mem Dvs
set_option maxHeartbeats 4000000 in
set_option maxRecDepth 100000 in
theorem pick_any (k n : Int) (w : World) (hk : -9223372036854775808 ≤ k ∧ k ≤ 9223372036854775807) (hn : 1 ≤ n) (hn2 : n ≤ 1000000000000) : Calls Tryd.prog 21 #[.int .i64 k, .int .i64 n] w fun e w' => e = .returned (.int .i64 (k % n)) ∧ w = w' := by
  go_enter Tryd.func21, Tryd.ntmps21
  by_cases h0 : 0 ≤ k
  · have e : k.tmod n = k % n := Int.tmod_eq_emod_of_nonneg h0
    have h1 := Int.emod_nonneg k (show n ≠ 0 by omega)
    have h2 := Int.emod_lt_of_pos k (show 0 < n by omega)
    generalize k % n = r at *
    go_wp2
    go_ret
    exact ⟨rfl, rfl⟩
  · by_cases hd : n ∣ k
    · have e : k.tmod n = 0 := by rw [Int.tmod_eq_emod, if_pos (.inr hd), Int.emod_eq_zero_of_dvd hd]; rfl
      have e2 : k % n = 0 := Int.emod_eq_zero_of_dvd hd
      have Hd := Held.mk hd
      clear hd
      rw [e2]
      clear e2
      go_wp2
      go_ret
      exact ⟨rfl, rfl⟩
    · have e : k.tmod n = k % n - n := by rw [Int.tmod_eq_emod, if_neg (fun h => h.elim h0 hd)]; omega
      have h1 := Int.emod_nonneg k (show n ≠ 0 by omega)
      have h2 := Int.emod_lt_of_pos k (show 0 < n by omega)
      have h3 : k % n ≠ 0 := fun h => hd (Int.dvd_of_emod_eq_zero h)
      clear hd
      generalize k % n = r at *
      have h4 : r - n < 0 := by omega
      go_wp2
      go_ret
      exact ⟨by first | rfl | (congr 2; omega), rfl⟩
theorem pick_in (k n : Nat) (w : World) (hn : k < n) (hm : n ≤ 1000000000000) :
    Calls Tryd.prog 21 #[.int .i64 k, .int .i64 n] w fun e w' => e = .returned (.int .i64 k) ∧ w' = w := by
  have h := pick_any k n w (by omega) (by omega) (by omega)
  rw [Int.emod_eq_of_lt (by omega) (by omega)] at h
  exact h.mono fun e w' ⟨h1, h2⟩ => ⟨h1, h2.symm⟩
/-- The quantities, the moneys of parts, together. -/
def sumQ : List (Nat × Nat) → Nat
  | [] => 0
  | x :: l => x.1 + sumQ l
def sumM : List (Nat × Nat) → Nat
  | [] => 0
  | x :: l => x.2 + sumM l
theorem sumQ_append (l k : List (Nat × Nat)) : sumQ (l ++ k) = sumQ l + sumQ k := by
  induction l with
  | nil => simp [sumQ]
  | cons x l ih => simp [sumQ, ih]; omega
theorem sumM_append (l k : List (Nat × Nat)) : sumM (l ++ k) = sumM l + sumM k := by
  induction l with
  | nil => simp [sumM]
  | cons x l ih => simp [sumM, ih]; omega
theorem sumQ_take (l : List (Nat × Nat)) (i : Nat) (h : i < l.length) : sumQ (l.take (i + 1)) = sumQ (l.take i) + (l[i]).1 := by
  rw [List.take_succ_eq_append_getElem h, sumQ_append]; simp [sumQ]
theorem sumM_take (l : List (Nat × Nat)) (i : Nat) (h : i < l.length) : sumM (l.take (i + 1)) = sumM (l.take i) + (l[i]).2 := by
  rw [List.take_succ_eq_append_getElem h, sumM_append]; simp [sumM]
theorem sumQ_part (l : List (Nat × Nat)) (i : Nat) : sumQ (l.take i) ≤ sumQ l := by
  have := sumQ_append (l.take i) (l.drop i)
  rw [List.take_append_drop] at this
  omega
theorem sumM_part (l : List (Nat × Nat)) (i : Nat) : sumM (l.take i) ≤ sumM l := by
  have := sumM_append (l.take i) (l.drop i)
  rw [List.take_append_drop] at this
  omega
theorem prs_at (l : List (Nat × Nat)) : ∀ (i : Nat) (h : i < l.length), (prs l)[i * 2]? = some (.int .i64 (l[i]).1) ∧ (prs l)[i * 2 + 1]? = some (.int .i64 (l[i]).2) := by
  induction l with
  | nil => intro i h; simp at h
  | cons x l ih =>
    intro i h
    cases i with
    | zero => simp [prs]
    | succ i =>
      have := ih i (by simpa using h)
      rw [show (i + 1) * 2 = i * 2 + 2 from by omega]
      simpa [prs] using this
theorem add_at (g j : Nat) : (⟨g, 0, none⟩ : Addr).add j = ⟨g, j, none⟩ := by
  unfold Addr.add
  split <;> simp_all
/-- What is known of an order under way. -/
structure Way (q m : Nat) (d : Nat) (xs : List (Nat × Nat)) : Prop where
  le : d ≤ q
  sq : sumQ xs = d
  sm : sumM xs = shr q m d
  some_ : xs = [] → d = 0
theorem Way.next {q m d t : Nat} {xs : List (Nat × Nat)} (h : Way q m d xs) (ht : t ≤ q - d) : Way q m (d + t) (if t = 0 then xs else xs ++ [(t, mny q m d t)]) := by
  have hle := h.le
  by_cases h0 : t = 0
  · subst h0
    simpa using h
  · rw [if_neg h0]
    refine ⟨by omega, ?_, ?_, ?_⟩
    · rw [sumQ_append, h.sq]; simp [sumQ]
    · rw [sumM_append, h.sm, ← mny_add]; simp [sumM]
    · intro e; simp at e
theorem len_next {t : Nat} {y : Nat × Nat} {xs : List (Nat × Nat)} : (if t = 0 then xs else xs ++ [y]).length ≤ xs.length + 1 := by
  split
  · omega
  · simp
/-- One record. -/
structure Call where
  on : Int
  hv : Int
  cs : Int
  ask : Bool
def Call.cells (p : Call) : List Value := [.int .i64 p.on, .int .i64 p.hv, .int .i64 p.cs, .bool p.ask]
structure Call.Good (p : Call) : Prop where
  on : -9223372036854775808 ≤ p.on ∧ p.on ≤ 9223372036854775807
  hv : -9223372036854775808 ≤ p.hv ∧ p.hv ≤ 9223372036854775807
  cs : -9223372036854775808 ≤ p.cs ∧ p.cs ≤ 9223372036854775807
theorem Call.cells_len (p : Call) : p.cells.length = 4 := rfl
/-- A slice of records that is read. -/
def RdCall (w : World) (ok : Nat → Prop) (A : Option Addr) (ps : List Call) : Prop := RdV w ok 4 A ps.length (ps.flatMap Call.cells)
theorem RdCall.at_ {w : World} {ok : Nat → Prop} {A : Option Addr} {ps : List Call} (h : RdCall w ok A ps) {k : Nat} (hk : k < ps.length) : ∃ ad, A = some ad ∧ ok ad.block ∧
    w.cell? (ad.add (k * 4)) = some (.int .i64 ps[k].on) ∧ w.cell? ⟨(ad.add (k * 4)).block, (ad.add (k * 4)).off + 1, none⟩ = some (.int .i64 ps[k].hv) ∧ w.cell? ⟨(ad.add (k * 4)).block, (ad.add (k * 4)).off + 2, none⟩ = some (.int .i64 ps[k].cs) ∧ w.cell? ⟨(ad.add (k * 4)).block, (ad.add (k * 4)).off + 3, none⟩ = some (.bool ps[k].ask) := by
  obtain ⟨ad, e, hb, hc⟩ := h.2 (by omega)
  refine ⟨ad, e, hb, ?_, ?_, ?_, ?_⟩
  · exact hc _ _ (by rw [← Nat.add_zero (k * 4), Law.flat_get Call.cells 4 Call.cells_len ps k 0 hk (by omega)]; rfl)
  · have := hc (k * 4 + 1) _ (by rw [Law.flat_get Call.cells 4 Call.cells_len ps k 1 hk (by omega)]; rfl)
    rw [← add_of_add] at this
    exact this
  · have := hc (k * 4 + 2) _ (by rw [Law.flat_get Call.cells 4 Call.cells_len ps k 2 hk (by omega)]; rfl)
    rw [← add_of_add] at this
    exact this
  · have := hc (k * 4 + 3) _ (by rw [Law.flat_get Call.cells 4 Call.cells_len ps k 3 hk (by omega)]; rfl)
    rw [← add_of_add] at this
    exact this
end Prt
end Go.Proofs.YtpbkmkclagikhaaDoor
