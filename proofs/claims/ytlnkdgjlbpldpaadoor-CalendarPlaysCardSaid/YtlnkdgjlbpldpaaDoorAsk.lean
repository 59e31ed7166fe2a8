/- asked: a calendar answers as the document's. -/
import Derived.Test.YtlnkdgjlbpldpaaDoorRcj
import Derived.Test.YtlnkdgjlbpldpaaDoorDts
namespace Go.Proofs.YtlnkdgjlbpldpaaDoor
set_option linter.unusedVariables false
set_option linter.unusedSimpArgs false
namespace Cal
open Go.RowKit Mem Go.Proofs.YtlnkdgjlbpldpaaDoorW.PrintLast Err

theorem Lst.drew {w : World} {A : Option Addr} {n : Nat} {xs : List Int} (h : Lst w A n xs) : Lst w.drew A n xs := h
theorem CalW.drew {w : World} {g b : Nat} {wk : List Bool} {l : List Int} (h : CalW w g b wk l) : CalW w.drew g b wk l := by
  obtain ⟨n, hn, hm⟩ := h.map
  exact ⟨h.day, h.ptr, n, hn, hm.drew⟩
theorem plain_errArg (w : World) (hg : Laid w) : Calls Tryd.prog 9 #[errArgV, .int .i64 1] w fun e w' => e = .returned (.bool true) ∧ Below w.heap.size w w' :=
  plain_err _ _ 1 1 w (isErr_errno 1) (by decide) (by decide) hg
def addV : Option Int → Value
  | some y => .tuple #[.int .i64 y, .nilIface]
  | none => .tuple #[.int .i64 0, noDayV]
theorem add_opt {B : Int → Bool} {n k : Int} {w w' : World} {e : Ending} (h : addRes B n k w e w') : ∃ r, e = .returned (addV r) ∧ AddR B n k r ∧ Below w.heap.size w w' := by
  rcases h with ⟨y, rfl, h, hb⟩ | ⟨rfl, h, hb⟩
  · exact ⟨some y, rfl, h, hb⟩
  · exact ⟨none, rfl, h, hb⟩
theorem adj_opt' {B : Int → Bool} {n c : Int} {w w' : World} {e : Ending} (h : adjRes B n c w e w') : ∃ r, e = .returned (addV r) ∧ AdjO B n c r ∧ Below w.heap.size w w' := by
  obtain ⟨r, he, h1, h2⟩ := adj_opt h
  exact ⟨r, by rw [he]; cases r <;> rfl, h1, h2⟩

/-- An outcome: a number, no day, a wrong argument. -/
inductive Res | val (y : Int) | noDay | arg
def pErr : Res → Value | .val _ => .nilIface | .noDay => noDayV | .arg => errArgV
def pInt : Res → Int | .val y => y | _ => 0
def dNum : Res → Int | .val _ => 0 | .noDay => 8 | .arg => 1
def ofO : Option Int → Res | some y => .val y | none => .noDay
def pV (r : Res) : Value := .tuple #[.int .i64 (pInt r), pErr r]
def dV (r : Res) : Value := .tuple #[.int .i64 (pInt r), .int .i64 (dNum r)]
theorem plain_res (r : Res) (w : World) (hg : Laid w) : Calls Tryd.prog 9 #[pErr r, .int .i64 (dNum r)] w fun e w' => e = .returned (.bool true) ∧ Below w.heap.size w w' := by
  cases r
  · exact plain_ok w
  · exact plain_noDay w hg
  · exact plain_errArg w hg
open Classical in
def PAdd (B : Int → Bool) (a k : Int) (r : Res) : Prop := if isD a then ∃ o, AddR B a k o ∧ r = ofO o else r = .noDay
open Classical in
def PAdj (B : Int → Bool) (a k : Int) (r : Res) : Prop := if isD a then (if k < 0 ∨ 3 < k then r = .arg else ∃ o, AdjO B a k o ∧ r = ofO o) else r = .noDay
open Classical in
def PCnt (B : Int → Bool) (x y : Int) (r : Res) : Prop := if isD x ∧ isD y then (if y < x then r = .arg else r = .val (FB B (y - 1) - FB B (x - 1))) else r = .noDay
theorem PAdd.uniq {B : Int → Bool} {a k : Int} {r s : Res} (h : PAdd B a k r) (h' : PAdd B a k s) : r = s := by
  unfold PAdd at h h'
  by_cases hd : isD a
  · rw [if_pos hd] at h h'
    obtain ⟨o, h1, rfl⟩ := h
    obtain ⟨o', h2, rfl⟩ := h'
    rw [h1.uniq hd h2]
  · rw [if_neg hd] at h h'
    rw [h, h']
theorem PAdj.uniq {B : Int → Bool} {a k : Int} {r s : Res} (h : PAdj B a k r) (h' : PAdj B a k s) : r = s := by
  unfold PAdj at h h'
  by_cases hd : isD a
  · rw [if_pos hd] at h h'
    by_cases hk : k < 0 ∨ 3 < k
    · rw [if_pos hk] at h h'
      rw [h, h']
    · rw [if_neg hk] at h h'
      obtain ⟨o, h1, rfl⟩ := h
      obtain ⟨o', h2, rfl⟩ := h'
      rw [h1.uniq h2]
  · rw [if_neg hd] at h h'
    rw [h, h']
theorem PCnt.uniq {B : Int → Bool} {a k : Int} {r s : Res} (h : PCnt B a k r) (h' : PCnt B a k s) : r = s := by
  unfold PCnt at h h'
  by_cases hd : isD a ∧ isD k
  · rw [if_pos hd] at h h'
    by_cases hk : k < a
    · rw [if_pos hk] at h h'
      rw [h, h']
    · rw [if_neg hk] at h h'
      rw [h, h']
  · rw [if_neg hd] at h h'
    rw [h, h']
theorem pV_of (o : Option Int) : addV o = pV (ofO o) := by cases o <;> rfl
theorem dV_of (o : Option Int) : rAddV o = dV (ofO o) := by cases o <;> rfl
theorem below_of_eq {w w' : World} (h : w = w') : Below w.heap.size w w' := by subst h; exact Below.refl _ _
theorem progAdd (gp bp : Nat) (wk : List Bool) (xs : List Int) (a k : Int) (w : World) (hc : CalW w gp bp wk xs) (hk : -9223372036854775808 ≤ k ∧ k ≤ 9223372036854775807) :
    Calls Tryd.prog 51 #[.pointer (some ⟨gp, 0, none⟩), .int .i64 a, .int .i64 k] w fun e w' => ∃ r, e = .returned (pV r) ∧ PAdd (busB wk xs) a k r ∧ Below w.heap.size w w' := by
  by_cases hd : isD a
  · refine (add_any gp bp wk xs a k w hc hk).mono ?_
    intro e w' h
    obtain ⟨o, he, h1, h2⟩ := add_opt h
    exact ⟨ofO o, by rw [he, pV_of], by unfold PAdd; rw [if_pos hd]; exact ⟨o, h1, rfl⟩, h2⟩
  · refine (add_out 0 a k gp w hd hk).mono ?_
    rintro e w' ⟨he, hw⟩
    exact ⟨.noDay, he, by unfold PAdd; rw [if_neg hd], below_of_eq hw⟩
theorem progAdj (gp bp : Nat) (wk : List Bool) (xs : List Int) (a k : Int) (w : World) (hc : CalW w gp bp wk xs) :
    Calls Tryd.prog 52 #[.pointer (some ⟨gp, 0, none⟩), .int .i64 a, .int .i64 k] w fun e w' => ∃ r, e = .returned (pV r) ∧ PAdj (busB wk xs) a k r ∧ Below w.heap.size w w' := by
  by_cases hd : isD a
  · by_cases hk : k < 0 ∨ 3 < k
    · refine (adjust_arg gp a k w hd hk).mono ?_
      rintro e w' ⟨he, hw⟩
      exact ⟨.arg, he, by unfold PAdj; rw [if_pos hd, if_pos hk], below_of_eq hw⟩
    · refine (adjust_any gp bp wk xs a k w hc hd (by omega)).mono ?_
      intro e w' h
      obtain ⟨o, he, h1, h2⟩ := adj_opt' h
      exact ⟨ofO o, by rw [he, pV_of], by unfold PAdj; rw [if_pos hd, if_neg hk]; exact ⟨o, h1, rfl⟩, h2⟩
  · refine (adjust_out gp a k w hd).mono ?_
    rintro e w' ⟨he, hw⟩
    exact ⟨.noDay, he, by unfold PAdj; rw [if_neg hd], below_of_eq hw⟩
theorem progCnt (gp bp : Nat) (wk : List Bool) (xs : List Int) (x y : Int) (w : World) (hc : CalW w gp bp wk xs) :
    Calls Tryd.prog 53 #[.pointer (some ⟨gp, 0, none⟩), .int .i64 x, .int .i64 y] w fun e w' => ∃ r, e = .returned (pV r) ∧ PCnt (busB wk xs) x y r ∧ Below w.heap.size w w' := by
  by_cases hd : isD x ∧ isD y
  · by_cases hk : y < x
    · refine (count_arg gp x y w hd.1 hd.2 hk).mono ?_
      rintro e w' ⟨he, hb⟩
      exact ⟨.arg, he, by unfold PCnt; rw [if_pos hd, if_pos hk], hb⟩
    · refine (count_in gp bp wk xs x y w hc hd.1 hd.2 (by omega)).mono ?_
      rintro e w' ⟨he, hb⟩
      exact ⟨.val _, he, by unfold PCnt; rw [if_pos hd, if_neg hk], hb⟩
  · refine (count_out gp x y w hd).mono ?_
    rintro e w' ⟨he, hb⟩
    exact ⟨.noDay, he, by unfold PCnt; rw [if_neg hd], hb⟩
theorem docAdd (b0 b1 b2 b3 b4 b5 b6 : Bool) (A : Option Addr) (n c : Nat) (xs : List Int) (a k : Int) (w : World) (hr : Lst w A n xs) (hn : n ≤ 17592186043904) (hk : -9223372036854775808 ≤ k ∧ k ≤ 9223372036854775807) :
    Calls Tryd.prog 56 #[.agg #[.bool b0, .bool b1, .bool b2, .bool b3, .bool b4, .bool b5, .bool b6, .slice A n c], .int .i64 a, .int .i64 k] w fun e w' => ∃ r, e = .returned (dV r) ∧ PAdd (busB [b0, b1, b2, b3, b4, b5, b6] xs) a k r ∧ Below w.heap.size w w' := by
  by_cases hd : isD a
  · refine (rAdd_in b0 b1 b2 b3 b4 b5 b6 A n c xs a k w hr hn hd hk).mono ?_
    rintro e w' ⟨o, he, h1, h2⟩
    exact ⟨ofO o, by rw [he, dV_of], by unfold PAdd; rw [if_pos hd]; exact ⟨o, h1, rfl⟩, h2⟩
  · refine (rAdd_out b0 b1 b2 b3 b4 b5 b6 A n c xs a k w hd).mono ?_
    rintro e w' ⟨he, hb⟩
    exact ⟨.noDay, he, by unfold PAdd; rw [if_neg hd], hb⟩
theorem docAdj (b0 b1 b2 b3 b4 b5 b6 : Bool) (A : Option Addr) (n c : Nat) (xs : List Int) (a k : Int) (w : World) (hr : Lst w A n xs) (hn : n ≤ 17592186043904) :
    Calls Tryd.prog 57 #[.agg #[.bool b0, .bool b1, .bool b2, .bool b3, .bool b4, .bool b5, .bool b6, .slice A n c], .int .i64 a, .int .i64 k] w fun e w' => ∃ r, e = .returned (dV r) ∧ PAdj (busB [b0, b1, b2, b3, b4, b5, b6] xs) a k r ∧ Below w.heap.size w w' := by
  by_cases hd : isD a
  · by_cases hk : k < 0 ∨ 3 < k
    · refine (rAdjust_arg b0 b1 b2 b3 b4 b5 b6 A n c xs a k w hd hk).mono ?_
      rintro e w' ⟨he, hb⟩
      exact ⟨.arg, he, by unfold PAdj; rw [if_pos hd, if_pos hk], hb⟩
    · refine (rAdjust_in b0 b1 b2 b3 b4 b5 b6 A n c xs a k w hr hn hd (by omega)).mono ?_
      rintro e w' ⟨o, he, h1, h2⟩
      exact ⟨ofO o, by rw [he, dV_of], by unfold PAdj; rw [if_pos hd, if_neg hk]; exact ⟨o, h1, rfl⟩, h2⟩
  · refine (rAdjust_out b0 b1 b2 b3 b4 b5 b6 A n c xs a k w hd).mono ?_
    rintro e w' ⟨he, hb⟩
    exact ⟨.noDay, he, by unfold PAdj; rw [if_neg hd], hb⟩
theorem docCnt (b0 b1 b2 b3 b4 b5 b6 : Bool) (A : Option Addr) (n c : Nat) (xs : List Int) (a k : Int) (w : World) (hr : Lst w A n xs) (hn : n ≤ 17592186043904) :
    Calls Tryd.prog 58 #[.agg #[.bool b0, .bool b1, .bool b2, .bool b3, .bool b4, .bool b5, .bool b6, .slice A n c], .int .i64 a, .int .i64 k] w fun e w' => ∃ r, e = .returned (dV r) ∧ PCnt (busB [b0, b1, b2, b3, b4, b5, b6] xs) a k r ∧ Below w.heap.size w w' := by
  by_cases hd : isD a ∧ isD k
  · by_cases hk : k < a
    · refine (rCount_arg b0 b1 b2 b3 b4 b5 b6 A n c xs a k w hd.1 hd.2 hk).mono ?_
      rintro e w' ⟨he, hb⟩
      exact ⟨.arg, he, by unfold PCnt; rw [if_pos hd, if_pos hk], hb⟩
    · refine (rCount_in b0 b1 b2 b3 b4 b5 b6 A n c xs a k w hr hn hd.1 hd.2 (by omega)).mono ?_
      rintro e w' ⟨he, hb⟩
      exact ⟨.val _, he, by unfold PCnt; rw [if_pos hd, if_neg hk], hb⟩
  · refine (rCount_out b0 b1 b2 b3 b4 b5 b6 A n c xs a k w hd).mono ?_
    rintro e w' ⟨he, hb⟩
    exact ⟨.noDay, he, by unfold PCnt; rw [if_neg hd], hb⟩
theorem rBus_agg (b0 b1 b2 b3 b4 b5 b6 : Bool) (A : Option Addr) (n c : Nat) (xs : List Int) (a : Int) (w : World) (hr : Lst w A n xs) (hn : n ≤ 17592186043904) :
    Calls Tryd.prog 55 #[.agg #[.bool b0, .bool b1, .bool b2, .bool b3, .bool b4, .bool b5, .bool b6, .slice A n c], .int .i64 a] w fun e w' => e = .returned (.bool ((busB [b0, b1, b2, b3, b4, b5, b6] xs) a)) ∧ Below w.heap.size w w' := rBus_any b0 b1 b2 b3 b4 b5 b6 A n c xs a w hr hn
set_option maxHeartbeats 16000000 in
set_option maxRecDepth 1000000 in
theorem asked_any (b0 b1 b2 b3 b4 b5 b6 : Bool) (A : Option Addr) (n c : Nat) (xs : List Int) (gp bp : Nat) (on kd a b : Int) (w : World) (hc : CalW w gp bp [b0, b1, b2, b3, b4, b5, b6] xs) (hr : Lst w A n xs) (hn : n ≤ 17592186043904) (hg : Laid w) (hb64 : -9223372036854775808 ≤ b ∧ b ≤ 9223372036854775807) :
    Calls Tryd.prog 24 #[.pointer (some ⟨gp, 0, none⟩), calV b0 b1 b2 b3 b4 b5 b6 A n c, .agg #[.int .i64 on, .int .i64 kd, .int .i64 a, .int .i64 b]] w fun e w' => e = .returned (.bool true) ∧ Below w.heap.size w w' := by
  have HB : Held (Below w.heap.size w ((w.alloc (.cells #[.bool b0, .bool b1, .bool b2, .bool b3, .bool b4, .bool b5, .bool b6, .slice A n c] 55)).alloc (.cells #[.int .i64 on, .int .i64 kd, .int .i64 a, .int .i64 b] 60))) := ⟨((Below.refl _ _).alloc (Nat.le_refl _) _).alloc (by simp) _⟩
  have HN := Held.mk ((Blk.new w 55 #[.bool b0, .bool b1, .bool b2, .bool b3, .bool b4, .bool b5, .bool b6, .slice A n c]).alloc (.cells #[.int .i64 on, .int .i64 kd, .int .i64 a, .int .i64 b] 60))
  have HM' := Blk.new (w.alloc (.cells #[.bool b0, .bool b1, .bool b2, .bool b3, .bool b4, .bool b5, .bool b6, .slice A n c] 55)) 60 #[.int .i64 on, .int .i64 kd, .int .i64 a, .int .i64 b]
  simp only [World.size_alloc] at HM'
  have HM := Held.mk HM'
  have HC := Held.mk (hc.below HB.out)
  have HL := Held.mk (hr.below HB.out)
  have HG := Held.mk (hg.below HB.out)
  clear hc hr hg HM'
  have hkd : (kd == 0) = true ∨ (kd == 0) = false ∧ (kd == 1) = true ∨ (kd == 0) = false ∧ (kd == 1) = false ∧ (kd == 2) = true ∨ (kd == 0) = false ∧ (kd == 1) = false ∧ (kd == 2) = false := by
    cases (kd == 0) <;> cases (kd == 1) <;> cases (kd == 2) <;> simp
  generalize hW0 : w.heap.size = W0 at *
  have HW0 := Held.mk hW0
  clear hW0
  unfold calV
  have m1 : ((w.alloc (.cells #[.bool b0, .bool b1, .bool b2, .bool b3, .bool b4, .bool b5, .bool b6, .slice A n c] 55)).alloc (.cells #[.int .i64 on, .int .i64 kd, .int .i64 a, .int .i64 b] 60)).cell? ⟨W0 + 1, 1, none⟩ = some (.int .i64 kd) := HM.out.cell 1
  go_enter Tryd.func24, Tryd.ntmps24
  rcases hkd with d0 | ⟨d0, d1⟩ | ⟨d0, d1, d2⟩ | ⟨d0, d1, d2⟩
  · go_wp2_with fail
    generalize (w.alloc (.cells #[.bool b0, .bool b1, .bool b2, .bool b3, .bool b4, .bool b5, .bool b6, .slice A n c] 55)).alloc (.cells #[.int .i64 on, .int .i64 kd, .int .i64 a, .int .i64 b] 60) = x0 at *
    rw [HW0.out]
    clear m1
    have k0 := HN.out.cell 0
    have k1 := HN.out.cell 1
    have k2 := HN.out.cell 2
    have k3 := HN.out.cell 3
    have k4 := HN.out.cell 4
    have k5 := HN.out.cell 5
    have k6 := HN.out.cell 6
    have k7 := HN.out.cell 7
    have j0 := HM.out.cell 0
    have j1 := HM.out.cell 1
    have j2 := HM.out.cell 2
    have j3 := HM.out.cell 3
    simp at k0 k1 k2 k3 k4 k5 k6 k7 j0 j1 j2 j3
    obtain ⟨q, hq⟩ : ∃ q, busB [b0, b1, b2, b3, b4, b5, b6] xs a = q := ⟨_, rfl⟩
    have Hq := Held.mk hq
    clear hq
    refine start_ (n := 10) (S := fun w' => w'.cell? ⟨W0, 0, none⟩ = some (.bool b0) ∧ w'.cell? ⟨W0, 1, none⟩ = some (.bool b1) ∧ w'.cell? ⟨W0, 2, none⟩ = some (.bool b2) ∧ w'.cell? ⟨W0, 3, none⟩ = some (.bool b3) ∧ w'.cell? ⟨W0, 4, none⟩ = some (.bool b4) ∧ w'.cell? ⟨W0, 5, none⟩ = some (.bool b5) ∧ w'.cell? ⟨W0, 6, none⟩ = some (.bool b6) ∧ w'.cell? ⟨W0, 7, none⟩ = some (.slice A n c) ∧ w'.cell? ⟨W0 + 1, 2, none⟩ = some (.int .i64 a)) (ds := []) #[false, false, false, false, false, false, false, false, false, false] (by kernel_rfl) rfl rfl ⟨k0, k1, k2, k3, k4, k5, k6, k7, j2⟩ (fun hHeld => ?_)
    refine pure_ (i := 0) (N := some 23) (v := ?_) (a' := ?_) #[true, false, false, false, false, false, false, false, false, false] rfl rfl (by kernel_rfl) (fun _ _ _ h => h) (Or.inl ⟨by rfl, ?_⟩) ?_ ?_
    rotate_left
    · intro w'
      go_simp
      with_reducible rfl
    rotate_left
    · simp only [Act.put, List.setIfInBounds_toArray, List.set_cons_zero, List.set_cons_succ, i64_w, i32_w]
      rfl
    refine pure_ (i := 1) (N := some 24) (v := ?_) (a' := ?_) #[true, true, false, false, false, false, false, false, false, false] rfl rfl (by kernel_rfl) (fun _ _ _ h => h) (Or.inl ⟨by rfl, ?_⟩) ?_ ?_
    rotate_left
    · intro w'
      go_simp
      with_reducible rfl
    rotate_left
    · simp only [Act.put, List.setIfInBounds_toArray, List.set_cons_zero, List.set_cons_succ, i64_w, i32_w]
      rfl
    refine pure_ (i := 5) (N := some 28) (v := ?_) (a' := ?_) #[true, true, false, false, false, true, false, false, false, false] rfl rfl (by kernel_rfl) (fun _ _ _ h => h) (Or.inl ⟨by rfl, ?_⟩) ?_ ?_
    rotate_left
    · intro w'
      go_simp
      with_reducible rfl
    rotate_left
    · simp only [Act.put, List.setIfInBounds_toArray, List.set_cons_zero, List.set_cons_succ, i64_w, i32_w]
      rfl
    refine take_ (i := 2) (N := some 25) (v := ?_) (a' := ?_) #[true, true, true, false, false, true, false, false, false, false] rfl rfl (by kernel_rfl) (fun _ _ _ h => h) (Or.inl ⟨by rfl, ?_⟩) hHeld ?_ ?_
    rotate_left
    · rintro w' ⟨s0, s1, s2, s3, s4, s5, s6, s7, s8⟩
      go_simp
      with_reducible rfl
    rotate_left
    · simp only [Act.put, List.setIfInBounds_toArray, List.set_cons_zero, List.set_cons_succ, i64_w, i32_w]
      rfl
    refine take_ (i := 4) (N := some 27) (v := ?_) (a' := ?_) #[true, true, true, false, true, true, false, false, false, false] rfl rfl (by kernel_rfl) (fun _ _ _ h => h) (Or.inl ⟨by rfl, ?_⟩) hHeld ?_ ?_
    rotate_left
    · rintro w' ⟨s0, s1, s2, s3, s4, s5, s6, s7, s8⟩
      go_simp
      with_reducible rfl
    rotate_left
    · simp only [Act.put, List.setIfInBounds_toArray, List.set_cons_zero, List.set_cons_succ, i64_w, i32_w]
      rfl
    refine take_ (i := 6) (N := some 29) (v := ?_) (a' := ?_) #[true, true, true, false, true, true, true, false, false, false] rfl rfl (by kernel_rfl) (fun _ _ _ h => h) (Or.inl ⟨by rfl, ?_⟩) hHeld ?_ ?_
    rotate_left
    · rintro w' ⟨s0, s1, s2, s3, s4, s5, s6, s7, s8⟩
      go_simp
      with_reducible rfl
    rotate_left
    · simp only [Act.put, List.setIfInBounds_toArray, List.set_cons_zero, List.set_cons_succ, i64_w, i32_w]
      rfl
    refine one_ (i := 3) (N := some 26) #[true, true, true, true, true, true, true, false, false, false] rfl rfl (by kernel_rfl) (by decide) (fun K hK => ?_)
    refine goes_ Tryd.func54 (by kernel_rfl) rfl #[.pointer (some ⟨gp, 0, none⟩), .int .i64 a] (by rfl) rfl rfl (by simp only [List.map_toArray, List.map_cons, List.map_nil]; rfl) ?_
    with_reducible refine (business_any gp bp [b0, b1, b2, b3, b4, b5, b6] xs a _ HC.out.drew).mono ?_
    rintro e xa ⟨rfl, hb⟩
    refine ⟨_, rfl, ?_⟩
    have HBa : Held (Below W0 w xa) := ⟨HB.out.drew.trans (hb.mono (by have := HB.out.size; rw [HW0.out] at this; exact this))⟩
    have HNa := Held.mk (HN.out.drew.keep (Keep.of_below hb (fun _ => False)) (fun h => h))
    have HMa := Held.mk (HM.out.drew.keep (Keep.of_below hb (fun _ => False)) (fun h => h))
    have HCa := Held.mk (HC.out.drew.below hb)
    have HLa := Held.mk (HL.out.drew.below hb)
    have ak0 := HNa.out.cell 0
    have ak1 := HNa.out.cell 1
    have ak2 := HNa.out.cell 2
    have ak3 := HNa.out.cell 3
    have ak4 := HNa.out.cell 4
    have ak5 := HNa.out.cell 5
    have ak6 := HNa.out.cell 6
    have ak7 := HNa.out.cell 7
    have aj2 := HMa.out.cell 2
    simp at ak0 ak1 ak2 ak3 ak4 ak5 ak6 ak7 aj2
    rw [Hq.out]
    clear hb
    refine hK.out _ _ ⟨ak0, ak1, ak2, ak3, ak4, ak5, ak6, ak7, aj2⟩ (fun hHeld => ?_)
    clear hK K
    refine norm_ (a' := ?_) ?_ ?_
    rotate_left
    · show Act.put _ (some 26) _ = _
      simp only [Act.put, List.setIfInBounds_toArray, List.set_cons_zero, List.set_cons_succ, i64_w, i32_w]
      rfl
    refine one_ (i := 7) (N := some 30) #[true, true, true, true, true, true, true, true, false, false] rfl rfl (by kernel_rfl) (by decide) (fun K hK => ?_)
    refine goes_ Tryd.func55 (by kernel_rfl) rfl #[.agg #[.bool b0, .bool b1, .bool b2, .bool b3, .bool b4, .bool b5, .bool b6, .slice A n c], .int .i64 a] (by rfl) rfl rfl (by simp only [List.map_toArray, List.map_cons, List.map_nil]; rfl) ?_
    with_reducible refine (rBus_agg b0 b1 b2 b3 b4 b5 b6 A n c xs a _ HLa.out hn).mono ?_
    rintro e xb ⟨rfl, hb⟩
    refine ⟨_, rfl, ?_⟩
    have HBb : Held (Below W0 w xb) := ⟨HBa.out.trans (hb.mono (by have := HBa.out.size; rw [HW0.out] at this; exact this))⟩
    have HNb := Held.mk (HNa.out.keep (Keep.of_below hb (fun _ => False)) (fun h => h))
    have HMb := Held.mk (HMa.out.keep (Keep.of_below hb (fun _ => False)) (fun h => h))
    have bk0 := HNb.out.cell 0
    have bk1 := HNb.out.cell 1
    have bk2 := HNb.out.cell 2
    have bk3 := HNb.out.cell 3
    have bk4 := HNb.out.cell 4
    have bk5 := HNb.out.cell 5
    have bk6 := HNb.out.cell 6
    have bk7 := HNb.out.cell 7
    have bj2 := HMb.out.cell 2
    simp at bk0 bk1 bk2 bk3 bk4 bk5 bk6 bk7 bj2
    rw [Hq.out]
    clear hb
    refine hK.out _ _ ⟨bk0, bk1, bk2, bk3, bk4, bk5, bk6, bk7, bj2⟩ (fun hHeld => ?_)
    clear hK K
    refine norm_ (a' := ?_) ?_ ?_
    rotate_left
    · show Act.put _ (some 30) _ = _
      simp only [Act.put, List.setIfInBounds_toArray, List.set_cons_zero, List.set_cons_succ, i64_w, i32_w]
      rfl
    refine pure_ (i := 8) (N := some 31) (v := ?_) (a' := ?_) #[true, true, true, true, true, true, true, true, true, false] rfl rfl (by kernel_rfl) (fun _ _ _ h => h) (Or.inl ⟨by rfl, ?_⟩) ?_ ?_
    rotate_left
    · intro w'
      go_simp
      with_reducible rfl
    rotate_left
    · simp only [Act.put, List.setIfInBounds_toArray, List.set_cons_zero, List.set_cons_succ, i64_w, i32_w]
      rfl
    refine pure_ (i := 9) (N := some 6) (v := ?_) (a' := ?_) #[true, true, true, true, true, true, true, true, true, true] rfl rfl (by kernel_rfl) (fun _ _ _ h => h) (Or.inl ⟨by rfl, ?_⟩) ?_ ?_
    rotate_left
    · intro w'
      go_simp
      with_reducible rfl
    rotate_left
    · simp only [Act.put, List.setIfInBounds_toArray, List.set_cons_zero, List.set_cons_succ, i64_w, i32_w]
      rfl
    refine done_ (by kernel_rfl) ?_
    go_wp2
    go_ret
    exact ⟨rfl, HBb.out⟩
  · go_wp2_with fail
    generalize (w.alloc (.cells #[.bool b0, .bool b1, .bool b2, .bool b3, .bool b4, .bool b5, .bool b6, .slice A n c] 55)).alloc (.cells #[.int .i64 on, .int .i64 kd, .int .i64 a, .int .i64 b] 60) = x0 at *
    rw [HW0.out]
    clear m1
    have k0 := HN.out.cell 0
    have k1 := HN.out.cell 1
    have k2 := HN.out.cell 2
    have k3 := HN.out.cell 3
    have k4 := HN.out.cell 4
    have k5 := HN.out.cell 5
    have k6 := HN.out.cell 6
    have k7 := HN.out.cell 7
    have j0 := HM.out.cell 0
    have j1 := HM.out.cell 1
    have j2 := HM.out.cell 2
    have j3 := HM.out.cell 3
    simp at k0 k1 k2 k3 k4 k5 k6 k7 j0 j1 j2 j3
    go_wp2_with fail
    refine (progAdd gp bp [b0, b1, b2, b3, b4, b5, b6] xs a b _ HC.out hb64).mono ?_
    rintro e xa ⟨r, rfl, hP, hb⟩
    have HP := Held.mk hP
    have HBa : Held (Below W0 w xa) := ⟨HB.out.trans (hb.mono (by have := HB.out.size; rw [HW0.out] at this; exact this))⟩
    have HNa := Held.mk (HN.out.keep (Keep.of_below hb (fun _ => False)) (fun h => h))
    have HMa := Held.mk (HM.out.keep (Keep.of_below hb (fun _ => False)) (fun h => h))
    have HLa := Held.mk (HL.out.below hb)
    have HGa := Held.mk (HG.out.below hb)
    clear hb hP k0 k1 k2 k3 k4 k5 k6 k7 j0 j1 j2 j3 HB HN HM HL HG HC
    have k0 := HNa.out.cell 0
    have k1 := HNa.out.cell 1
    have k2 := HNa.out.cell 2
    have k3 := HNa.out.cell 3
    have k4 := HNa.out.cell 4
    have k5 := HNa.out.cell 5
    have k6 := HNa.out.cell 6
    have k7 := HNa.out.cell 7
    have j0 := HMa.out.cell 0
    have j1 := HMa.out.cell 1
    have j2 := HMa.out.cell 2
    have j3 := HMa.out.cell 3
    simp at k0 k1 k2 k3 k4 k5 k6 k7 j0 j1 j2 j3
    unfold pV
    go_wp2_with fail
    refine (docAdd b0 b1 b2 b3 b4 b5 b6 A n c xs a b _ HLa.out hn hb64).mono ?_
    rintro e xb ⟨r', rfl, hP', hb⟩
    obtain rfl := HP.out.uniq hP'
    have HBb : Held (Below W0 w xb) := ⟨HBa.out.trans (hb.mono (by have := HBa.out.size; rw [HW0.out] at this; exact this))⟩
    have HGb := Held.mk (HGa.out.below hb)
    clear hb hP'
    unfold dV
    go_wp2_with fail
    refine (plain_res r _ HGb.out).mono ?_
    rintro e xc ⟨rfl, hb⟩
    have HBc : Held (Below W0 w xc) := ⟨HBb.out.trans (hb.mono (by have := HBb.out.size; rw [HW0.out] at this; exact this))⟩
    clear hb
    go_wp2
    go_ret
    exact ⟨rfl, HBc.out⟩
  · go_wp2_with fail
    generalize (w.alloc (.cells #[.bool b0, .bool b1, .bool b2, .bool b3, .bool b4, .bool b5, .bool b6, .slice A n c] 55)).alloc (.cells #[.int .i64 on, .int .i64 kd, .int .i64 a, .int .i64 b] 60) = x0 at *
    rw [HW0.out]
    clear m1
    have k0 := HN.out.cell 0
    have k1 := HN.out.cell 1
    have k2 := HN.out.cell 2
    have k3 := HN.out.cell 3
    have k4 := HN.out.cell 4
    have k5 := HN.out.cell 5
    have k6 := HN.out.cell 6
    have k7 := HN.out.cell 7
    have j0 := HM.out.cell 0
    have j1 := HM.out.cell 1
    have j2 := HM.out.cell 2
    have j3 := HM.out.cell 3
    simp at k0 k1 k2 k3 k4 k5 k6 k7 j0 j1 j2 j3
    go_wp2_with fail
    refine (progAdj gp bp [b0, b1, b2, b3, b4, b5, b6] xs a b _ HC.out).mono ?_
    rintro e xa ⟨r, rfl, hP, hb⟩
    have HP := Held.mk hP
    have HBa : Held (Below W0 w xa) := ⟨HB.out.trans (hb.mono (by have := HB.out.size; rw [HW0.out] at this; exact this))⟩
    have HNa := Held.mk (HN.out.keep (Keep.of_below hb (fun _ => False)) (fun h => h))
    have HMa := Held.mk (HM.out.keep (Keep.of_below hb (fun _ => False)) (fun h => h))
    have HLa := Held.mk (HL.out.below hb)
    have HGa := Held.mk (HG.out.below hb)
    clear hb hP k0 k1 k2 k3 k4 k5 k6 k7 j0 j1 j2 j3 HB HN HM HL HG HC
    have k0 := HNa.out.cell 0
    have k1 := HNa.out.cell 1
    have k2 := HNa.out.cell 2
    have k3 := HNa.out.cell 3
    have k4 := HNa.out.cell 4
    have k5 := HNa.out.cell 5
    have k6 := HNa.out.cell 6
    have k7 := HNa.out.cell 7
    have j0 := HMa.out.cell 0
    have j1 := HMa.out.cell 1
    have j2 := HMa.out.cell 2
    have j3 := HMa.out.cell 3
    simp at k0 k1 k2 k3 k4 k5 k6 k7 j0 j1 j2 j3
    unfold pV
    go_wp2_with fail
    refine (docAdj b0 b1 b2 b3 b4 b5 b6 A n c xs a b _ HLa.out hn).mono ?_
    rintro e xb ⟨r', rfl, hP', hb⟩
    obtain rfl := HP.out.uniq hP'
    have HBb : Held (Below W0 w xb) := ⟨HBa.out.trans (hb.mono (by have := HBa.out.size; rw [HW0.out] at this; exact this))⟩
    have HGb := Held.mk (HGa.out.below hb)
    clear hb hP'
    unfold dV
    go_wp2_with fail
    refine (plain_res r _ HGb.out).mono ?_
    rintro e xc ⟨rfl, hb⟩
    have HBc : Held (Below W0 w xc) := ⟨HBb.out.trans (hb.mono (by have := HBb.out.size; rw [HW0.out] at this; exact this))⟩
    clear hb
    go_wp2
    go_ret
    exact ⟨rfl, HBc.out⟩
  · go_wp2_with fail
    generalize (w.alloc (.cells #[.bool b0, .bool b1, .bool b2, .bool b3, .bool b4, .bool b5, .bool b6, .slice A n c] 55)).alloc (.cells #[.int .i64 on, .int .i64 kd, .int .i64 a, .int .i64 b] 60) = x0 at *
    rw [HW0.out]
    clear m1
    have k0 := HN.out.cell 0
    have k1 := HN.out.cell 1
    have k2 := HN.out.cell 2
    have k3 := HN.out.cell 3
    have k4 := HN.out.cell 4
    have k5 := HN.out.cell 5
    have k6 := HN.out.cell 6
    have k7 := HN.out.cell 7
    have j0 := HM.out.cell 0
    have j1 := HM.out.cell 1
    have j2 := HM.out.cell 2
    have j3 := HM.out.cell 3
    simp at k0 k1 k2 k3 k4 k5 k6 k7 j0 j1 j2 j3
    go_wp2_with fail
    refine (progCnt gp bp [b0, b1, b2, b3, b4, b5, b6] xs a b _ HC.out).mono ?_
    rintro e xa ⟨r, rfl, hP, hb⟩
    have HP := Held.mk hP
    have HBa : Held (Below W0 w xa) := ⟨HB.out.trans (hb.mono (by have := HB.out.size; rw [HW0.out] at this; exact this))⟩
    have HNa := Held.mk (HN.out.keep (Keep.of_below hb (fun _ => False)) (fun h => h))
    have HMa := Held.mk (HM.out.keep (Keep.of_below hb (fun _ => False)) (fun h => h))
    have HLa := Held.mk (HL.out.below hb)
    have HGa := Held.mk (HG.out.below hb)
    clear hb hP k0 k1 k2 k3 k4 k5 k6 k7 j0 j1 j2 j3 HB HN HM HL HG HC
    have k0 := HNa.out.cell 0
    have k1 := HNa.out.cell 1
    have k2 := HNa.out.cell 2
    have k3 := HNa.out.cell 3
    have k4 := HNa.out.cell 4
    have k5 := HNa.out.cell 5
    have k6 := HNa.out.cell 6
    have k7 := HNa.out.cell 7
    have j0 := HMa.out.cell 0
    have j1 := HMa.out.cell 1
    have j2 := HMa.out.cell 2
    have j3 := HMa.out.cell 3
    simp at k0 k1 k2 k3 k4 k5 k6 k7 j0 j1 j2 j3
    unfold pV
    go_wp2_with fail
    refine (docCnt b0 b1 b2 b3 b4 b5 b6 A n c xs a b _ HLa.out hn).mono ?_
    rintro e xb ⟨r', rfl, hP', hb⟩
    obtain rfl := HP.out.uniq hP'
    have HBb : Held (Below W0 w xb) := ⟨HBa.out.trans (hb.mono (by have := HBa.out.size; rw [HW0.out] at this; exact this))⟩
    have HGb := Held.mk (HGa.out.below hb)
    clear hb hP'
    unfold dV
    go_wp2_with fail
    refine (plain_res r _ HGb.out).mono ?_
    rintro e xc ⟨rfl, hb⟩
    have HBc : Held (Below W0 w xc) := ⟨HBb.out.trans (hb.mono (by have := HBb.out.size; rw [HW0.out] at this; exact this))⟩
    clear hb
    go_wp2
    go_ret
    exact ⟨rfl, HBc.out⟩
end Cal
end Go.Proofs.YtlnkdgjlbpldpaaDoor
