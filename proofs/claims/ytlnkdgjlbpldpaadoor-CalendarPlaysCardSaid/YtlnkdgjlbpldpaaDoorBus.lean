/- Calendar: a calendar in memory; New, Business, next. -/
import Derived.Test.YtlnkdgjlbpldpaaDoorBusP
import Derived.Maps.OwnSet
namespace Go.Proofs.YtlnkdgjlbpldpaaDoor
set_option linter.unusedVariables false
set_option linter.unusedSimpArgs false
namespace Cal
open Go.RowKit Mem Go.Proofs.YtlnkdgjlbpldpaaDoorW.PrintLast Go.Maps

def setL (l : List Int) : DataW Unit := setOf (.agg []) (l.map (Lit.int .i64))
theorem any_int (x : Int) : ∀ l : List Int, l.any ((fun y : Lit => y.sameKey (.int .i64 x)) ∘ Lit.int .i64) = l.contains x
  | [] => rfl
  | a :: r => by
    rw [List.any_cons, List.contains_cons, any_int x r]
    congr 1
    show decide (IntKind.i64 = IntKind.i64 ∧ a = x) = (x == a)
    by_cases e : a = x
    · subst e
      simp
    · have e' : ¬ x = a := fun h => e h.symm
      simp [e, e']
theorem has_setL (l : List Int) (x : Int) : Maps.has (setL l) (.int .i64 x) = l.contains x := by
  unfold setL
  rw [has_setOf _ _ _ (fun y hy => by obtain ⟨_, _, rfl⟩ := List.mem_map.1 hy; trivial), List.any_map]
  exact any_int x _
theorem setL_snoc (l : List Int) (x : Int) : setL (l ++ [x]) = (setL l).put (.int .i64 x) (.agg []) := by
  unfold setL
  rw [List.map_append, List.map_singleton, setOf_snoc]
theorem law3 : Keyed Tryd.prog 3 := int_keyed Tryd.underlying3
theorem zeroU (w : World) : (zeroValue 102).run Tryd.prog w = .ok (.agg #[]) w := by kernel_rfl
/-- The calendar at block g, its map at block b: the week's free days, the further ones. -/
structure CalW (w : World) (g b : Nat) (wk : List Bool) (l : List Int) : Prop where
  day : ∀ k, k < 7 → w.cell? ⟨g, k, none⟩ = some (.bool (wk.getD k false))
  ptr : w.cell? ⟨g, 7, none⟩ = some (.map (some b))
  map : ∃ n, n ≤ l.length ∧ w.ownsMap Tryd.prog 3 (unitElem (H := Unit)) b n (setL l)
theorem CalW.lt {w : World} {g b : Nat} {wk : List Bool} {l : List Int} (h : CalW w g b wk l) : g < w.heap.size := World.block_lt_of_cell? w _ (h.day 0 (by omega))
theorem CalW.below {w w' : World} {g b : Nat} {wk : List Bool} {l : List Int} (h : CalW w g b wk l) (hb : Below w.heap.size w w') : CalW w' g b wk l := by
  have hg := h.lt
  refine ⟨fun k hk => (hb.cell (p := ⟨g, k, none⟩) hg).trans (h.day k hk), (hb.cell (p := ⟨g, 7, none⟩) hg).trans h.ptr, ?_⟩
  obtain ⟨n, hn, hm⟩ := h.map
  refine ⟨n, hn, ?_⟩
  have hlt := hm.lt
  obtain ⟨es, clock, hbl, r⟩ := hm
  exact ⟨es, clock, (hb.block b hlt).trans hbl, r⟩
theorem CalW.ne {w : World} {g b : Nat} {wk : List Bool} {l : List Int} (h : CalW w g b wk l) : g ≠ b := by
  rintro rfl
  obtain ⟨n, hn, es, clock, hbl, r⟩ := h.map
  have := h.ptr
  simp [World.cell?, hbl] at this
theorem CalW.put {w w1 : World} {g b n : Nat} {wk : List Bool} {l : List Int} {x : Int} (h : CalW w g b wk l) (hn : n ≤ l.length) (ho : w1.ownsMap Tryd.prog 3 (unitElem (H := Unit)) b (n + 1) ((setL l).put (.int .i64 x) (.agg []))) (hg : w.grownBy w1 (some b)) : CalW w1 g b wk (l ++ [x]) := by
  have hne := h.ne
  have hlt := h.lt
  have hk : Keep (fun k => some b = some k) w w1 := Keep.of_grown hg
  refine ⟨fun k hk7 => hk.cell (h.day k hk7) (fun e => hne (by injection e with e; exact e.symm)), hk.cell h.ptr (fun e => hne (by injection e with e; exact e.symm)), n + 1, by simp; omega, ?_⟩
  rw [setL_snoc]
  exact ho
/-- Is a day a business day? -/
def busB (wk : List Bool) (l : List Int) (n : Int) : Bool := decide (1 ≤ n ∧ n ≤ 3652059) && !(wk.getD ((n + 6) % 7).toNat false) && !(l.contains n)
theorem busB_day {wk : List Bool} {l : List Int} {n : Int} (h : busB wk l n = true) : isD n := by
  unfold busB at h
  simp only [Bool.and_eq_true, decide_eq_true_eq] at h
  exact h.1.1
theorem wf_small {n : Int} (h1 : -4000000 ≤ n) (h2 : n ≤ 4000000) : (Lit.int .i64 n).wf = true := by
  simp [Lit.wf, IntKind.min, IntKind.max, IntKind.signed, IntKind.bits]
  omega

set_option maxHeartbeats 4000000 in
set_option maxRecDepth 100000 in
theorem business_any (g b : Nat) (wk : List Bool) (l : List Int) (n : Int) (w : World) (hc : CalW w g b wk l) :
    Calls Tryd.prog 54 #[.pointer (some ⟨g, 0, none⟩), .int .i64 n] w fun e w' => e = .returned (.bool (busB wk l n)) ∧ Below w.heap.size w w' := by
  have HC := Held.mk hc
  clear hc
  by_cases hd : 1 ≤ n ∧ n ≤ 3652059
  · have HD := Held.mk hd
    have hD : decide (1 ≤ n ∧ n ≤ 3652059) = true := decide_eq_true hd
    obtain ⟨hd1, hd2⟩ := hd
    obtain ⟨k, hk⟩ : ∃ k : Nat, (n + 6).tmod 7 = (k : Int) := ⟨((n + 6) % 7).toNat, by rw [Int.tmod_eq_emod_of_nonneg (by omega)]; omega⟩
    have hk7 : k < 7 := by rw [Int.tmod_eq_emod_of_nonneg (by omega)] at hk; omega
    have hk7i : (k : Int) < 7 := by omega
    have hkn : ((n + 6) % 7).toNat = k := by rw [Int.tmod_eq_emod_of_nonneg (by omega)] at hk; omega
    have hres : busB wk l n = (!(wk.getD k false) && !(l.contains n)) := by unfold busB; rw [hkn, hD]; simp
    have Hres := Held.mk hres
    have k0 := HC.out.day k hk7
    have k7 := HC.out.ptr
    obtain ⟨m, hm, hown⟩ := HC.out.map
    have Hown := Held.mk hown
    have hkey : keyOf Tryd.prog 3 (.int .i64 n) = some (.int .i64 n) := keyOf_int_mk Tryd.underlying3 (wf_small (by omega) (by omega))
    have Hhas := Held.mk (has_setL l n)
    clear hres hown hkn
    generalize wk.getD k false = bw at *
    generalize l.contains n = bl at *
    generalize busB wk l n = res at *
    have hbw : bw = true ∨ bw = false := by cases bw <;> simp
    go_enter Tryd.func54, Tryd.ntmps54
    go_wp2_with fail
    refine start_ (n := 12) (S := fun w' => w'.cell? ⟨g, k, none⟩ = some (.bool bw) ∧ w'.cell? ⟨g, 7, none⟩ = some (.map (some b))) (ds := []) #[false, false, false, false, false, false, false, false, false, false, false, false] (by kernel_rfl) rfl rfl ⟨k0, k7⟩ (fun hHeld => ?_)
    refine pure_ (i := 0) (N := some 7) (v := ?_) (a' := ?_) #[true, false, false, false, false, false, false, false, false, false, false, false] rfl rfl (by kernel_rfl) (fun _ _ _ h => h) (Or.inl ⟨by rfl, ?_⟩) ?_ ?_
    rotate_left
    · intro w'
      go_simp
      with_reducible rfl
    rotate_left
    · simp only [Act.put, List.setIfInBounds_toArray, List.set_cons_zero, List.set_cons_succ, i64_w, i32_w]
      rfl
    refine one_ (i := 1) (N := some 8) #[true, true, false, false, false, false, false, false, false, false, false, false] rfl rfl (by kernel_rfl) (by decide) (fun K hK => ?_)
    refine goes_ Tryd.func39 (by kernel_rfl) rfl #[.int .i64 n] (by rfl) rfl rfl (by simp only [List.map_toArray, List.map_cons, List.map_nil]; rfl) ?_
    with_reducible refine (isDay_any n _).mono ?_
    rintro e w8 ⟨rfl, rfl⟩
    refine ⟨_, rfl, ?_⟩
    rw [hD]
    refine hK.out _ _ ⟨k0, k7⟩ (fun hHeld => ?_)
    clear hK K
    refine norm_ (a' := ?_) ?_ ?_
    rotate_left
    · show Act.put _ (some 8) _ = _
      simp only [Act.put, List.setIfInBounds_toArray, List.set_cons_zero, List.set_cons_succ, i64_w, i32_w]
      rfl
    refine pure_ (i := 2) (N := some 9) (v := ?_) (a' := ?_) #[true, true, true, false, false, false, false, false, false, false, false, false] rfl rfl (by kernel_rfl) (fun _ _ _ h => h) (Or.inl ⟨by rfl, ?_⟩) ?_ ?_
    rotate_left
    · intro w'
      go_simp
      with_reducible rfl
    rotate_left
    · simp only [Act.put, List.setIfInBounds_toArray, List.set_cons_zero, List.set_cons_succ, i64_w, i32_w]
      rfl
    refine pure_ (i := 3) (N := some 10) (v := ?_) (a' := ?_) #[true, true, true, true, false, false, false, false, false, false, false, false] rfl rfl (by kernel_rfl) (fun _ _ _ h => h) (Or.inl ⟨by rfl, ?_⟩) ?_ ?_
    rotate_left
    · intro w'
      go_simp
      with_reducible rfl
    rotate_left
    · simp only [Act.put, List.setIfInBounds_toArray, List.set_cons_zero, List.set_cons_succ, i64_w, i32_w]
      rfl
    refine pure_ (i := 4) (N := some 11) (v := ?_) (a' := ?_) #[true, true, true, true, true, false, false, false, false, false, false, false] rfl rfl (by kernel_rfl) (fun _ _ _ h => h) (Or.inl ⟨by rfl, ?_⟩) ?_ ?_
    rotate_left
    · intro w'
      go_simp
      with_reducible rfl
    rotate_left
    · simp only [Act.put, List.setIfInBounds_toArray, List.set_cons_zero, List.set_cons_succ, i64_w, i32_w]
      rfl
    refine pure_ (i := 5) (N := some 12) (v := ?_) (a' := ?_) #[true, true, true, true, true, true, false, false, false, false, false, false] rfl rfl (by kernel_rfl) (fun _ _ _ h => h) (Or.inl ⟨by rfl, ?_⟩) ?_ ?_
    rotate_left
    · intro w'
      go_simp
      with_reducible rfl
    rotate_left
    · simp only [Act.put, List.setIfInBounds_toArray, List.set_cons_zero, List.set_cons_succ, i64_w, i32_w]
      rfl
    refine pure_ (i := 7) (N := some 14) (v := ?_) (a' := ?_) #[true, true, true, true, true, true, false, true, false, false, false, false] rfl rfl (by kernel_rfl) (fun _ _ _ h => h) (Or.inl ⟨by rfl, ?_⟩) ?_ ?_
    rotate_left
    · intro w'
      go_simp
      with_reducible rfl
    rotate_left
    · simp only [Act.put, List.setIfInBounds_toArray, List.set_cons_zero, List.set_cons_succ, i64_w, i32_w]
      rfl
    refine pure_ (i := 8) (N := some 15) (v := ?_) (a' := ?_) #[true, true, true, true, true, true, false, true, true, false, false, false] rfl rfl (by kernel_rfl) (fun _ _ _ h => h) (Or.inl ⟨by rfl, ?_⟩) ?_ ?_
    rotate_left
    · intro w'
      go_simp
      with_reducible rfl
    rotate_left
    · simp only [Act.put, List.setIfInBounds_toArray, List.set_cons_zero, List.set_cons_succ, i64_w, i32_w]
      rfl
    refine one_ (i := 6) (N := some 13) #[true, true, true, true, true, true, true, true, true, false, false, false] rfl rfl (by kernel_rfl) (by decide) (fun K hK => ?_)
    refine goes_ Tryd.func42 (by kernel_rfl) rfl #[.int .i64 n] (by rfl) rfl rfl (by simp only [List.map_toArray, List.map_cons, List.map_nil]; rfl) ?_
    with_reducible refine (weekday_any n _ (by omega) (by omega)).mono ?_
    rintro e w9 ⟨rfl, rfl⟩
    refine ⟨_, rfl, ?_⟩
    rw [hk]
    refine hK.out _ _ ⟨k0, k7⟩ (fun hHeld => ?_)
    clear hK K
    refine norm_ (a' := ?_) ?_ ?_
    rotate_left
    · show Act.put _ (some 13) _ = _
      simp only [Act.put, List.setIfInBounds_toArray, List.set_cons_zero, List.set_cons_succ, i64_w, i32_w]
      rfl
    refine pure_ (i := 9) (N := some 16) (v := ?_) (a' := ?_) #[true, true, true, true, true, true, true, true, true, true, false, false] rfl rfl (by kernel_rfl) (fun _ _ _ h => h) (Or.inl ⟨by rfl, ?_⟩) ?_ ?_
    rotate_left
    · intro w'
      go_simp
      with_reducible rfl
    rotate_left
    · simp only [Act.put, List.setIfInBounds_toArray, List.set_cons_zero, List.set_cons_succ, i64_w, i32_w]
      rfl
    refine take_ (i := 10) (N := some 17) (v := ?_) (a' := ?_) #[true, true, true, true, true, true, true, true, true, true, true, false] rfl rfl (by kernel_rfl) (fun _ _ _ h => h) (Or.inl ⟨by rfl, ?_⟩) hHeld ?_ ?_
    rotate_left
    · rintro w' ⟨s0, s1⟩
      go_simp
      with_reducible rfl
    rotate_left
    · simp only [Act.put, List.setIfInBounds_toArray, List.set_cons_zero, List.set_cons_succ, i64_w, i32_w]
      rfl
    refine pure_ (i := 11) (N := some 18) (v := ?_) (a' := ?_) #[true, true, true, true, true, true, true, true, true, true, true, true] rfl rfl (by kernel_rfl) (fun _ _ _ h => h) (Or.inl ⟨by rfl, ?_⟩) ?_ ?_
    rotate_left
    · intro w'
      go_simp
      with_reducible rfl
    rotate_left
    · simp only [Act.put, List.setIfInBounds_toArray, List.set_cons_zero, List.set_cons_succ, i64_w, i32_w]
      rfl
    refine done_ (by kernel_rfl) ?_
    rcases hbw with rfl | rfl
    · go_wp2
      go_ret
      exact ⟨by rw [Hres.out]; rfl, below_drewN (Below.refl _ _) _⟩
    · go_wp2_with (first
        | (at_lookup; refine wpList_lookup_own_unit _ rfl _ _ 99 rfl 3 102 law3 Tryd.underlying99 (zeroU _) b m _ rfl Hown.out _ _ rfl hkey ?_; rw [Hhas.out])
        | fail)
      go_ret
      exact ⟨by rw [Hres.out]; rfl, (below_drewN (Below.refl _ _) _).alloc (Nat.le_refl _) _⟩
  · have hD : decide (1 ≤ n ∧ n ≤ 3652059) = false := decide_eq_false hd
    have hres : busB wk l n = false := by unfold busB; rw [hD]; simp
    have Hres := Held.mk hres
    clear hd hres
    generalize busB wk l n = res at *
    go_enter Tryd.func54, Tryd.ntmps54
    go_wp2_with fail
    refine start_ (n := 12) (S := fun w' => True) (ds := []) #[false, false, false, false, false, false, false, false, false, false, false, false] (by kernel_rfl) rfl rfl trivial (fun hHeld => ?_)
    refine pure_ (i := 0) (N := some 7) (v := ?_) (a' := ?_) #[true, false, false, false, false, false, false, false, false, false, false, false] rfl rfl (by kernel_rfl) (fun _ _ _ h => h) (Or.inl ⟨by rfl, ?_⟩) ?_ ?_
    rotate_left
    · intro w'
      go_simp
      with_reducible rfl
    rotate_left
    · simp only [Act.put, List.setIfInBounds_toArray, List.set_cons_zero, List.set_cons_succ, i64_w, i32_w]
      rfl
    refine one_ (i := 1) (N := some 8) #[true, true, false, false, false, false, false, false, false, false, false, false] rfl rfl (by kernel_rfl) (by decide) (fun K hK => ?_)
    refine goes_ Tryd.func39 (by kernel_rfl) rfl #[.int .i64 n] (by rfl) rfl rfl (by simp only [List.map_toArray, List.map_cons, List.map_nil]; rfl) ?_
    with_reducible refine (isDay_any n _).mono ?_
    rintro e w8 ⟨rfl, rfl⟩
    refine ⟨_, rfl, ?_⟩
    rw [hD]
    refine hK.out _ _ trivial (fun hHeld => ?_)
    clear hK K
    refine norm_ (a' := ?_) ?_ ?_
    rotate_left
    · show Act.put _ (some 8) _ = _
      simp only [Act.put, List.setIfInBounds_toArray, List.set_cons_zero, List.set_cons_succ, i64_w, i32_w]
      rfl
    refine pure_ (i := 2) (N := some 9) (v := ?_) (a' := ?_) #[true, true, true, false, false, false, false, false, false, false, false, false] rfl rfl (by kernel_rfl) (fun _ _ _ h => h) (Or.inl ⟨by rfl, ?_⟩) ?_ ?_
    rotate_left
    · intro w'
      go_simp
      with_reducible rfl
    rotate_left
    · simp only [Act.put, List.setIfInBounds_toArray, List.set_cons_zero, List.set_cons_succ, i64_w, i32_w]
      rfl
    refine pure_ (i := 3) (N := some 10) (v := ?_) (a' := ?_) #[true, true, true, true, false, false, false, false, false, false, false, false] rfl rfl (by kernel_rfl) (fun _ _ _ h => h) (Or.inl ⟨by rfl, ?_⟩) ?_ ?_
    rotate_left
    · intro w'
      go_simp
      with_reducible rfl
    rotate_left
    · simp only [Act.put, List.setIfInBounds_toArray, List.set_cons_zero, List.set_cons_succ, i64_w, i32_w]
      rfl
    refine pure_ (i := 4) (N := some 11) (v := undef) (a' := ?_) #[true, true, true, true, true, false, false, false, false, false, false, false] rfl rfl (by kernel_rfl) (fun _ _ _ h => h) (Or.inr ⟨by rfl, rfl⟩) ?_ ?_
    rotate_left
    · simp only [Act.put, List.setIfInBounds_toArray, List.set_cons_zero, List.set_cons_succ, i64_w, i32_w]
      rfl
    refine pure_ (i := 5) (N := some 12) (v := undef) (a' := ?_) #[true, true, true, true, true, true, false, false, false, false, false, false] rfl rfl (by kernel_rfl) (fun _ _ _ h => h) (Or.inr ⟨by rfl, rfl⟩) ?_ ?_
    rotate_left
    · simp only [Act.put, List.setIfInBounds_toArray, List.set_cons_zero, List.set_cons_succ, i64_w, i32_w]
      rfl
    refine pure_ (i := 6) (N := some 13) (v := undef) (a' := ?_) #[true, true, true, true, true, true, true, false, false, false, false, false] rfl rfl (by kernel_rfl) (fun _ _ _ h => h) (Or.inr ⟨by rfl, rfl⟩) ?_ ?_
    rotate_left
    · simp only [Act.put, List.setIfInBounds_toArray, List.set_cons_zero, List.set_cons_succ, i64_w, i32_w]
      rfl
    refine pure_ (i := 7) (N := some 14) (v := undef) (a' := ?_) #[true, true, true, true, true, true, true, true, false, false, false, false] rfl rfl (by kernel_rfl) (fun _ _ _ h => h) (Or.inr ⟨by rfl, rfl⟩) ?_ ?_
    rotate_left
    · simp only [Act.put, List.setIfInBounds_toArray, List.set_cons_zero, List.set_cons_succ, i64_w, i32_w]
      rfl
    refine pure_ (i := 8) (N := some 15) (v := undef) (a' := ?_) #[true, true, true, true, true, true, true, true, true, false, false, false] rfl rfl (by kernel_rfl) (fun _ _ _ h => h) (Or.inr ⟨by rfl, rfl⟩) ?_ ?_
    rotate_left
    · simp only [Act.put, List.setIfInBounds_toArray, List.set_cons_zero, List.set_cons_succ, i64_w, i32_w]
      rfl
    refine pure_ (i := 9) (N := some 16) (v := undef) (a' := ?_) #[true, true, true, true, true, true, true, true, true, true, false, false] rfl rfl (by kernel_rfl) (fun _ _ _ h => h) (Or.inr ⟨by rfl, rfl⟩) ?_ ?_
    rotate_left
    · simp only [Act.put, List.setIfInBounds_toArray, List.set_cons_zero, List.set_cons_succ, i64_w, i32_w]
      rfl
    refine pure_ (i := 10) (N := some 17) (v := undef) (a' := ?_) #[true, true, true, true, true, true, true, true, true, true, true, false] rfl rfl (by kernel_rfl) (fun _ _ _ h => h) (Or.inr ⟨by rfl, rfl⟩) ?_ ?_
    rotate_left
    · simp only [Act.put, List.setIfInBounds_toArray, List.set_cons_zero, List.set_cons_succ, i64_w, i32_w]
      rfl
    refine pure_ (i := 11) (N := some 18) (v := ?_) (a' := ?_) #[true, true, true, true, true, true, true, true, true, true, true, true] rfl rfl (by kernel_rfl) (fun _ _ _ h => h) (Or.inl ⟨by rfl, ?_⟩) ?_ ?_
    rotate_left
    · intro w'
      go_simp
      with_reducible rfl
    rotate_left
    · simp only [Act.put, List.setIfInBounds_toArray, List.set_cons_zero, List.set_cons_succ, i64_w, i32_w]
      rfl
    refine done_ (by kernel_rfl) ?_
    go_wp2
    go_ret
    exact ⟨by rw [Hres.out]; rfl, below_drewN (Below.refl _ _) _⟩

set_option maxHeartbeats 4000000 in
set_option maxRecDepth 100000 in
/-- The first business day from n on. -/
theorem next_any (g b : Nat) (wk : List Bool) (l : List Int) (n s : Int) (w : World) (hc : CalW w g b wk l) (hs : s = 1 ∨ s = -1) (h0 : 0 ≤ n) (h1 : n ≤ 3652060) :
    Calls Tryd.prog 72 #[.pointer (some ⟨g, 0, none⟩), .int .i64 n, .int .i64 s] w fun e w' => ∃ m, e = .returned (.int .i64 m) ∧ NextR (busB wk l) s n m ∧ 0 ≤ m ∧ m ≤ 3652060 ∧ Below w.heap.size w w' := by
  have HC := Held.mk hc
  have HS := Held.mk hs
  have hs1 : -1 ≤ s := by omega
  have hs2 : s ≤ 1 := by omega
  clear hc hs
  go_enter Tryd.func72, Tryd.ntmps72
  go_wp2
  go_loopw [1] (fun v wr => ∃ (x : Int) (k : Nat), v = .int .i64 x ∧ 0 ≤ x ∧ x ≤ 3652060 ∧ Held (x = n + s * k ∧ ∀ j : Nat, j < k → isD (n + s * j) ∧ busB wk l (n + s * j) = false) ∧ Held (Below w.heap.size w wr))
    (fun v _ => (if s = 1 then 3652061 - intOf v else intOf v + 1).toNat)
  case atStart => exact ⟨n, 0, rfl, h0, h1, ⟨by simp, fun j hj => by omega⟩, ⟨Below.refl _ _⟩⟩
  case round =>
    obtain ⟨x, k, rfl, hx0, hx1, HK, HB⟩ := hrel
    go_wp2_with fail
    refine (isDay_any x wr).mono ?_
    rintro e w1 ⟨rfl, rfl⟩
    by_cases hd : 1 ≤ x ∧ x ≤ 3652059
    · rw [decide_eq_true hd]
      obtain ⟨hd1, hd2⟩ := hd
      go_wp2_with fail
      refine (business_any g b wk l x wr (HC.out.below HB.out)).mono ?_
      rintro e w1 ⟨rfl, hb1⟩
      have HB1 : Held (Below w.heap.size w w1) := ⟨HB.out.trans (hb1.mono HB.out.size)⟩
      clear hb1
      have HR : Held (busB wk l x = true ∨ busB wk l x = false) := ⟨by cases busB wk l x <;> simp⟩
      rcases HR.out with hr | hr
      · have Hr := Held.mk hr
        rw [hr]
        clear hr HR
        go_wp2
        go_ret
        exact ⟨x, rfl, ⟨k, HK.out.1, HK.out.2, fun _ => Hr.out⟩, hx0, hx1, HB1.out⟩
      · have Hr := Held.mk hr
        rw [hr]
        clear hr HR
        go_wp2
        go_roundw
        case rel =>
          refine ⟨x + s, k + 1, by go_num, by omega, by omega, ⟨?_, fun j hj => ?_⟩, HB1⟩
          · rw [HK.out.1, Int.add_assoc, Int.natCast_add, Int.mul_add]; simp
          · by_cases hjk : j < k
            · exact HK.out.2 j hjk
            · rw [show j = k from by omega, ← HK.out.1]
              exact ⟨⟨hd1, hd2⟩, Hr.out⟩
        case measure =>
          simp only [intOf]
          rcases HS.out with rfl | rfl <;> simp <;> omega
    · rw [decide_eq_false hd]
      have Hd := Held.mk hd
      clear hd
      go_wp2
      go_ret
      exact ⟨x, rfl, ⟨k, HK.out.1, HK.out.2, fun h => absurd h Hd.out⟩, hx0, hx1, HB.out⟩

set_option maxHeartbeats 4000000 in
set_option maxRecDepth 100000 in
theorem new_any (b0 b1 b2 b3 b4 b5 b6 : Bool) (A : Option Addr) (n c : Nat) (xs : List Int) (w : World) (hr : RdN w (fun k => k < w.heap.size) .i64 A n xs) (hwf : ∀ x ∈ xs, (Lit.int .i64 x).wf = true) (hn : n ≤ 17592186043904) :
    Calls Tryd.prog 47 #[.agg #[.bool b0, .bool b1, .bool b2, .bool b3, .bool b4, .bool b5, .bool b6], .slice A n c] w fun e w' => ∃ g b, e = .returned (.pointer (some ⟨g, 0, none⟩)) ∧ w.heap.size ≤ g ∧ w.heap.size ≤ b ∧ CalW w' g b [b0, b1, b2, b3, b4, b5, b6] xs ∧ Below w.heap.size w w' := by
  have hmm := @run_makeMap Tryd.prog
  have Hr := Held.mk hr
  have Hwf := Held.mk hwf
  have Hlen := Held.mk hr.len
  clear hr hwf
  generalize hW0 : w.heap.size = W0 at *
  have HW0 := Held.mk hW0
  go_enter Tryd.func47, Tryd.ntmps47
  go_wp2
  have hb8 := Blk.new ((w.alloc (.cells #[.bool b0, .bool b1, .bool b2, .bool b3, .bool b4, .bool b5, .bool b6] 49)).alloc (.map #[] 0)) 101 #[.bool b0, .bool b1, .bool b2, .bool b3, .bool b4, .bool b5, .bool b6, .map (some (W0 + 1))]
  have hmp := (World.ownsMap_made (H := Unit) (w.alloc (.cells #[.bool b0, .bool b1, .bool b2, .bool b3, .bool b4, .bool b5, .bool b6] 49)) Tryd.prog 3 unitElem).alloc (.cells #[.bool b0, .bool b1, .bool b2, .bool b3, .bool b4, .bool b5, .bool b6, .map (some (W0 + 1))] 101)
  have hbl := ((((Below.refl w.heap.size w).alloc (Nat.le_refl _) (.cells #[.bool b0, .bool b1, .bool b2, .bool b3, .bool b4, .bool b5, .bool b6] 49)).alloc (by simp) (.map #[] 0)).alloc (by simp; omega) (.cells #[.bool b0, .bool b1, .bool b2, .bool b3, .bool b4, .bool b5, .bool b6, .map (some (W0 + 1))] 101))
  simp only [World.size_alloc, hW0] at hb8 hmp hbl
  generalize (((w.alloc (.cells #[.bool b0, .bool b1, .bool b2, .bool b3, .bool b4, .bool b5, .bool b6] 49)).alloc (.map #[] 0)).alloc (.cells #[.bool b0, .bool b1, .bool b2, .bool b3, .bool b4, .bool b5, .bool b6, .map (some (W0 + 1))] 101)) = w3 at *
  have hc0 : CalW w3 (W0 + 1 + 1) (W0 + 1) [b0, b1, b2, b3, b4, b5, b6] [] := by
    refine ⟨fun k hk => ?_, ?_, 0, Nat.le_refl _, hmp⟩
    · rw [hb8.cell]
      have : k = 0 ∨ k = 1 ∨ k = 2 ∨ k = 3 ∨ k = 4 ∨ k = 5 ∨ k = 6 := by omega
      rcases this with rfl | rfl | rfl | rfl | rfl | rfl | rfl <;> rfl
    · rw [hb8.cell]; rfl
  have HB := Held.mk hbl
  have HC0 := Held.mk hc0
  clear hb8 hmp hbl hc0
  generalize hwk : [b0, b1, b2, b3, b4, b5, b6] = wk at *
  have hk3 : W0 + 1 + 1 < w3.heap.size := HC0.out.lt
  go_loopw [14] (fun i wr => ∃ k : Nat, i = .int .i64 k ∧ k ≤ n ∧ Held (CalW wr (W0 + 1 + 1) (W0 + 1) wk (xs.take k)) ∧ Held (Below W0 w wr)) (fun i _ => n - (intOf i).toNat)
  case atStart => exact ⟨0, rfl, Nat.zero_le _, HC0, HB⟩
  case round =>
    obtain ⟨k, rfl, hkn, HC, HB2⟩ := hrel
    clear HC0 HB
    by_cases hlt : k < n
    · have hkr : RdN wr (fun k => k < W0) .i64 A n xs := Hr.out.keep (Keep.of_below (by rw [HW0.out]; exact HB2.out) (fun k => ¬ k < W0)) (fun k hk => by simpa using hk)
      obtain ⟨ad, rfl, hcell⟩ := hkr.at_ hlt
      have hxl : k < xs.length := by rw [Hlen.out]; exact hlt
      have hxw : (Lit.int .i64 (xs.getD k 0)).wf = true := by
        rw [List.getD_eq_getElem?_getD, List.getElem?_eq_getElem hxl]
        exact Hwf.out _ (List.getElem_mem hxl)
      have hx1 : xs.take (k + 1) = xs.take k ++ [xs.getD k 0] := by
        rw [List.take_add_one, List.getD_eq_getElem?_getD, List.getElem?_eq_getElem hxl]; rfl
      have Hx1 := Held.mk hx1
      have hkey : keyOf Tryd.prog 3 (.int .i64 (xs.getD k 0)) = some (.int .i64 (xs.getD k 0)) := keyOf_int_mk Tryd.underlying3 hxw
      generalize xs.getD k 0 = x at *
      have hptr := HC.out.ptr
      obtain ⟨m, hm, hown⟩ := HC.out.map
      have hml : m ≤ 17592186043904 := by
        have : (xs.take k).length ≤ k := by rw [List.length_take]; omega
        omega
      have Hown := Held.mk hown
      have Hm := Held.mk hm
      clear hkr hx1 hxw hown hm
      go_wp2_with (first
        | (at_mapUpdate; refine wpList_mapUpdate_own _ rfl _ _ _ 99 rfl 3 102 law3 Tryd.underlying99 (unitElem (H := Unit)) (W0 + 1) m _ rfl Hown.out (by unfold maxLen; omega) _ _ _ rfl rfl hkey _ [] unitElem_mk ?_; intro w5 hown5 hgrow5)
        | fail)
      have HC5 := Held.mk (HC.out.put Hm.out hown5 hgrow5)
      have HB5 : Held (Below W0 w w5) := ⟨HB2.out.grown hgrow5 (by have := HB2.out.size; omega) (fun j hj => by cases hj; omega)⟩
      go_roundw
      case rel => exact ⟨k + 1, by go_num, by omega, ⟨by rw [Hx1.out]; exact HC5.out⟩, HB5⟩
      case measure => simp [intOf]; omega
    · obtain rfl : k = n := by omega
      go_wp2
      go_ret
      refine ⟨W0 + 1 + 1, W0 + 1, rfl, by omega, by omega, ?_, HB2.out⟩
      have := HC.out
      rw [List.take_of_length_le (by rw [Hlen.out]; omega), ← hwk] at this
      exact this
end Cal
end Go.Proofs.YtlnkdgjlbpldpaaDoor
