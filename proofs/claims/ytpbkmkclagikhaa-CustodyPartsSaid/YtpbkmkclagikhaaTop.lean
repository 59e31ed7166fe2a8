/- CustodyParts: the walk. -/
import Derived.Test.YtpbkmkclagikhaaTak
namespace Go.Proofs.Ytpbkmkclagikhaa
set_option linter.unusedVariables false
set_option linter.unusedSimpArgs false
namespace Prt
open Go.RowKit Mem Dvs
set_option maxHeartbeats 4000000 in
set_option maxRecDepth 100000 in
theorem within_any (k n : Int) (w : World) (hk : -9223372036854775808 ≤ k ∧ k ≤ 9223372036854775807) (hn : 1 ≤ n) :
    Calls Try.prog 11 #[.int .i64 k, .int .i64 n] w fun e w' => (∃ r : Nat, e = .returned (.int .i64 r) ∧ (r : Int) < n) ∧ w' = w := by
  obtain ⟨hk1, hk2⟩ := hk
  have i0 : (n == 0) = false := beq_eq_false_iff_ne.2 (by omega)
  have key : ∀ x : Int, 0 ≤ x → ∃ r : Nat, x % n = (r : Int) ∧ (r : Int) < n := fun x hx =>
    ⟨(x % n).toNat, by have := Int.emod_nonneg x (show n ≠ 0 by omega); omega, by have := Int.emod_lt_of_pos x (show 0 < n by omega); have := Int.emod_nonneg x (show n ≠ 0 by omega); omega⟩
  by_cases h : k < 0
  · have h1 : decide (k < 0) = true := decide_eq_true h
    have j1 : 0 ≤ -(k + 1) := by omega
    obtain ⟨r, hr, hr2⟩ := key _ j1
    have HR : Held (-((k + 1).tmod n) = (r : Int)) := ⟨by rw [← Int.neg_tmod, Int.tmod_eq_emod_of_nonneg j1]; exact hr⟩
    have HR2 := Held.mk hr2
    clear hr hr2 h
    go_enter Try.func11, Try.ntmps11
    go_wp2
    go_ret
    exact ⟨⟨r, congrArg (fun x => Ending.returned (Value.int .i64 x)) HR.out, HR2.out⟩, rfl⟩
  · have h1 : decide (k < 0) = false := decide_eq_false h
    have j1 : 0 ≤ k := by omega
    obtain ⟨r, hr, hr2⟩ := key _ j1
    have HR := Held.mk hr
    have HR2 := Held.mk hr2
    clear hr hr2 h
    go_enter Try.func11, Try.ntmps11
    go_wp2
    go_ret
    exact ⟨⟨r, congrArg (fun x => Ending.returned (Value.int .i64 x)) HR.out, HR2.out⟩, rfl⟩
set_option maxHeartbeats 4000000 in
set_option maxRecDepth 100000 in
theorem pick_any (k n : Int) (w : World) (hk : -9223372036854775808 ≤ k ∧ k ≤ 9223372036854775807) (hn : 1 ≤ n) (hn2 : n ≤ 1000000000000) : Calls Try.prog 14 #[.int .i64 k, .int .i64 n] w fun e w' => e = .returned (.int .i64 (k % n)) ∧ w = w' := by
  go_enter Try.func14, Try.ntmps14
  by_cases h0 : 0 ≤ k
  · have e : k.tmod n = k % n := Int.tmod_eq_emod_of_nonneg h0
    have h1 := Int.emod_nonneg k (show n ≠ 0 by omega)
    have h2 := Int.emod_lt_of_pos k (show 0 < n by omega)
    generalize k % n = r at *
    go_wp2
    go_ret
    exact ⟨rfl, rfl⟩
  · by_cases hd : n ∣ k
    · have e : k.tmod n = 0 := by rw [Int.tmod_eq_emod, if_pos (.inr hd), Int.emod_eq_zero_of_dvd hd]; rfl
      have e2 : k % n = 0 := Int.emod_eq_zero_of_dvd hd
      have Hd := Held.mk hd
      clear hd
      rw [e2]
      clear e2
      go_wp2
      go_ret
      exact ⟨rfl, rfl⟩
    · have e : k.tmod n = k % n - n := by rw [Int.tmod_eq_emod, if_neg (fun h => h.elim h0 hd)]; omega
      have h1 := Int.emod_nonneg k (show n ≠ 0 by omega)
      have h2 := Int.emod_lt_of_pos k (show 0 < n by omega)
      have h3 : k % n ≠ 0 := fun h => hd (Int.dvd_of_emod_eq_zero h)
      clear hd
      generalize k % n = r at *
      have h4 : r - n < 0 := by omega
      go_wp2
      go_ret
      exact ⟨by first | rfl | (congr 2; omega), rfl⟩
theorem pick_in (k n : Nat) (w : World) (hn : k < n) (hm : n ≤ 1000000000000) :
    Calls Try.prog 14 #[.int .i64 k, .int .i64 n] w fun e w' => e = .returned (.int .i64 k) ∧ w' = w := by
  have h := pick_any k n w (by omega) (by omega) (by omega)
  rw [Int.emod_eq_of_lt (by omega) (by omega)] at h
  exact h.mono fun e w' ⟨h1, h2⟩ => ⟨h1, h2.symm⟩
/-- The quantities, the moneys of parts, together. -/
def sumQ : List (Nat × Nat) → Nat
  | [] => 0
  | x :: l => x.1 + sumQ l
def sumM : List (Nat × Nat) → Nat
  | [] => 0
  | x :: l => x.2 + sumM l
theorem sumQ_append (l k : List (Nat × Nat)) : sumQ (l ++ k) = sumQ l + sumQ k := by
  induction l with
  | nil => simp [sumQ]
  | cons x l ih => simp [sumQ, ih]; omega
theorem sumM_append (l k : List (Nat × Nat)) : sumM (l ++ k) = sumM l + sumM k := by
  induction l with
  | nil => simp [sumM]
  | cons x l ih => simp [sumM, ih]; omega
theorem sumQ_take (l : List (Nat × Nat)) (i : Nat) (h : i < l.length) : sumQ (l.take (i + 1)) = sumQ (l.take i) + (l[i]).1 := by
  rw [List.take_succ_eq_append_getElem h, sumQ_append]; simp [sumQ]
theorem sumM_take (l : List (Nat × Nat)) (i : Nat) (h : i < l.length) : sumM (l.take (i + 1)) = sumM (l.take i) + (l[i]).2 := by
  rw [List.take_succ_eq_append_getElem h, sumM_append]; simp [sumM]
theorem sumQ_part (l : List (Nat × Nat)) (i : Nat) : sumQ (l.take i) ≤ sumQ l := by
  have := sumQ_append (l.take i) (l.drop i)
  rw [List.take_append_drop] at this
  omega
theorem sumM_part (l : List (Nat × Nat)) (i : Nat) : sumM (l.take i) ≤ sumM l := by
  have := sumM_append (l.take i) (l.drop i)
  rw [List.take_append_drop] at this
  omega
theorem prs_at (l : List (Nat × Nat)) : ∀ (i : Nat) (h : i < l.length), (prs l)[i * 2]? = some (.int .i64 (l[i]).1) ∧ (prs l)[i * 2 + 1]? = some (.int .i64 (l[i]).2) := by
  induction l with
  | nil => intro i h; simp at h
  | cons x l ih =>
    intro i h
    cases i with
    | zero => simp [prs]
    | succ i =>
      have := ih i (by simpa using h)
      rw [show (i + 1) * 2 = i * 2 + 2 from by omega]
      simpa [prs] using this
theorem add_at (g j : Nat) : (⟨g, 0, none⟩ : Addr).add j = ⟨g, j, none⟩ := by
  unfold Addr.add
  split <;> simp_all
/-- What is known of an order under way. -/
structure Way (q m : Nat) (d : Nat) (xs : List (Nat × Nat)) : Prop where
  le : d ≤ q
  sq : sumQ xs = d
  sm : sumM xs = shr q m d
  some_ : xs = [] → d = 0
theorem Way.next {q m d t : Nat} {xs : List (Nat × Nat)} (h : Way q m d xs) (ht : t ≤ q - d) : Way q m (d + t) (if t = 0 then xs else xs ++ [(t, mny q m d t)]) := by
  have hle := h.le
  by_cases h0 : t = 0
  · subst h0
    simpa using h
  · rw [if_neg h0]
    refine ⟨by omega, ?_, ?_, ?_⟩
    · rw [sumQ_append, h.sq]; simp [sumQ]
    · rw [sumM_append, h.sm, ← mny_add]; simp [sumM]
    · intro e; simp at e
theorem len_next {t : Nat} {y : Nat × Nat} {xs : List (Nat × Nat)} : (if t = 0 then xs else xs ++ [y]).length ≤ xs.length + 1 := by
  split
  · omega
  · simp
set_option maxHeartbeats 16000000 in
set_option maxRecDepth 100000 in
theorem parts_any (k0 k1 k2 k3 : Int) (A A2 : Option Addr) (n c n2 c2 : Nat) (xs ys : List Int) (w : World)
    (b0 : -9223372036854775808 ≤ k0 ∧ k0 ≤ 9223372036854775807) (b1 : -9223372036854775808 ≤ k1 ∧ k1 ≤ 9223372036854775807) (b2 : -9223372036854775808 ≤ k2 ∧ k2 ≤ 9223372036854775807) (b3 : -9223372036854775808 ≤ k3 ∧ k3 ≤ 9223372036854775807)
    (hr : RdN w (fun k => k < w.heap.size) .i64 A n xs) (hr2 : RdN w (fun k => k < w.heap.size) .i64 A2 n2 ys) (hb : ∀ x ∈ xs, -9223372036854775808 ≤ x ∧ x ≤ 9223372036854775807) (hb2 : ∀ x ∈ ys, -9223372036854775808 ≤ x ∧ x ≤ 9223372036854775807)
    (hl : n ≤ 140737488351232) (hl2 : n2 ≤ 140737488351232) :
    Calls Try.prog 5 #[.int .i64 k0, .int .i64 k1, .int .i64 k2, .int .i64 k3, .slice A n c, .slice A2 n2 c2] w fun e w' => e = .returned (.bool true) ∧ Below w.heap.size w w' := by
  have H0 := Held.mk (within_any k0 1099511627776 w b0 (by decide))
  have H1 := Held.mk (within_any k1 1125899906842624 w b1 (by decide))
  have H2 := Held.mk (fun n => within_any k2 n w b2)
  have H3 := Held.mk (fun n => within_any k3 n w b3)
  have Hr := Held.mk hr
  have Hr2 := Held.mk hr2
  have Hb := Held.mk hb
  have Hb2 := Held.mk hb2
  clear hr hr2 hb hb2 b0 b1 b2 b3
  go_enter Try.func5, Try.ntmps5
  go_wp2_with fail
  refine H0.out.mono ?_
  rintro e w1 ⟨⟨r0, rfl, g0⟩, rfl⟩
  have G0 := Held.mk g0
  obtain ⟨q, hq⟩ : ∃ q : Nat, q = 1 + r0 := ⟨_, rfl⟩
  have eq : (1 : Int) + (r0 : Int) = (q : Int) := by omega
  have HQ1 : Held (q ≤ 1099511627776) := ⟨by omega⟩
  have i1 : (q : Int) ≤ 9223372036854775800 := by omega
  have i2 : (1 : Int) ≤ (q : Int) := by omega
  clear g0 hq
  go_wp2_with fail
  refine H1.out.mono ?_
  rintro e w2 ⟨⟨m, rfl, g1⟩, rfl⟩
  have HM1 : Held (m < 1125899906842624) := ⟨by omega⟩
  have i3 : (m : Int) ≤ 9223372036854775800 := by omega
  clear g1
  go_wp2_with fail
  refine (H2.out _ (by omega)).mono ?_
  rintro e w3 ⟨⟨r2, rfl, g2⟩, rfl⟩
  obtain ⟨l, hl0⟩ : ∃ l : Nat, l = 1 + r2 := ⟨_, rfl⟩
  have el : (1 : Int) + (r2 : Int) = (l : Int) := by omega
  have i4 : (l : Int) ≤ (q : Int) := by omega
  have i5 : (1 : Int) ≤ (l : Int) := by omega
  clear g2 hl0
  go_wp2_with fail
  refine (H3.out _ (by omega)).mono ?_
  rintro e w4 ⟨⟨t, rfl, g3⟩, rfl⟩
  have i6 : (t : Int) ≤ (q : Int) := by omega
  clear g3 G0 eq el H0 H1
  have hq0 : 0 < q := by omega
  have hl0 : 0 < l := by omega
  have HQ0 := Held.mk hq0
  have HL0 := Held.mk hl0
  have HN := Held.mk (New_in q m l t w4 hq0 hl0)
  have HT := Held.mk (fun base B d have_ cash v xs w hd hh ho hx => Take_in base B q m l t d have_ cash v xs w ho hq0 (by have := HQ1.out; omega) (by have := HM1.out; omega) hl0 hd hh hx)
  have HLf := Held.mk (fun base B d p v xs w hd hp ho => Left_in base B q m l t d p v xs w ho hd hp (by have := HQ1.out; omega) (by have := HM1.out; omega))
  have HSL := Held.mk (fun d (hd : d ≤ q) => shr_le (a := m) hq0 hd)
  have HSA := Held.mk (shr_all (a := m) hq0)
  clear hq0 hl0
  have HBn : Held (Below w4.heap.size w4 (w4.alloc (.cells #[.int .i64 q, .int .i64 m, .int .i64 l, .int .i64 t, .int .i64 0, .int .i64 0, .slice none 0 0] 48))) := ⟨(Below.refl _ _).alloc (Nat.le_refl _) _⟩
  have HOn : Held (Ord (w4.alloc (.cells #[.int .i64 q, .int .i64 m, .int .i64 l, .int .i64 t, .int .i64 0, .int .i64 0, .slice none 0 0] 48)) w4.heap.size w4.heap.size q m l t 0 (shr q m 0) (.slice none 0 0) []) :=
    ⟨⟨by rw [shr_zero]; exact Blk.new _ _ _, Nat.le_refl _, own_nil _ _ _ _⟩⟩
  go_wp2_with fail
  refine HN.out.mono ?_
  rintro e w5 ⟨rfl, rfl⟩
  generalize w4.alloc (.cells #[.int .i64 q, .int .i64 m, .int .i64 l, .int .i64 t, .int .i64 0, .int .i64 0, .slice none 0 0] 48) = w5 at *
  clear H2 HN
  dsimp only
  go_upto_block 0 with fail
  go_cut [19, 20] (fun u v wx => ∃ (d : Nat) (vv : Value) (zs : List (Nat × Nat)), u = .int .i64 d ∧ v = .int .i64 (shr q m d) ∧ Held (zs.length ≤ 40) ∧ Held (Way q m d zs) ∧ Held (Ord wx w4.heap.size w4.heap.size q m l t d (shr q m d) vv zs) ∧ Held (Below w4.heap.size w4 wx))
  case first =>
    go_wp2_with fail
    go_loopw [19, 20, 21] (fun u v i wr => ∃ (j d : Nat) (vv : Value) (zs : List (Nat × Nat)), i = .int .i64 j ∧ u = .int .i64 d ∧ v = .int .i64 (shr q m d) ∧ j ≤ n ∧ j ≤ 40 ∧ Held (zs.length ≤ j) ∧ Held (Way q m d zs) ∧ Held (Ord wr w4.heap.size w4.heap.size q m l t d (shr q m d) vv zs) ∧ Held (Below w4.heap.size w4 wr)) (fun _ _ i _ => 40 - (intOf i).toNat)
    case atStart => exact ⟨0, 0, _, [], rfl, rfl, by rw [shr_zero]; rfl, Nat.zero_le _, by omega, ⟨by simp⟩, ⟨Nat.zero_le _, rfl, by rw [shr_zero]; rfl, fun _ => rfl⟩, HOn, HBn⟩
    case round =>
      obtain ⟨j, d, vv, zs, rfl, rfl, rfl, hjn, hj40, Hj, HWy, HO, HB⟩ := hrel
      by_cases c1 : j < n
      · by_cases c2 : j < 40
        · obtain ⟨ad, rfl, hcx⟩ := RdN.at_ (Hr.out.keep (Keep.of_below HB.out (fun k => ¬ k < w4.heap.size)) (fun k hk => by simpa using hk)) c1
          have Hx : Held (-9223372036854775808 ≤ xs.getD j 0 ∧ xs.getD j 0 ≤ 9223372036854775807) := ⟨by
            rw [List.getD_eq_getElem?_getD, List.getElem?_eq_getElem (by rw [Hr.out.len]; exact c1)]
            exact Hb.out _ (List.getElem_mem _)⟩
          generalize xs.getD j 0 = xj at *
          go_upto_if 68 with fail
          go_cut [22] (fun s wx => ∃ mo : Nat, s = .int .i64 mo ∧ Held (mo ≤ 1152921504606846976) ∧ wx = wr)
          case first =>
            by_cases c3 : j < n2
            · obtain ⟨ad2, rfl, hcy⟩ := RdN.at_ (Hr2.out.keep (Keep.of_below HB.out (fun k => ¬ k < w4.heap.size)) (fun k hk => by simpa using hk)) c3
              have Hy : Held (-9223372036854775808 ≤ ys.getD j 0 ∧ ys.getD j 0 ≤ 9223372036854775807) := ⟨by
                rw [List.getD_eq_getElem?_getD, List.getElem?_eq_getElem (by rw [Hr2.out.len]; exact c3)]
                exact Hb2.out _ (List.getElem_mem _)⟩
              generalize ys.getD j 0 = yj at *
              go_wp2_with fail
              refine (within_any yj ((m : Int) + 1) wr Hy.out (by omega)).mono ?_
              rintro e w6 ⟨⟨mo, rfl, g⟩, rfl⟩
              have HMo : Held (mo ≤ 1152921504606846976) := ⟨by have := HM1.out; omega⟩
              clear g
              go_wp2_with fail
              go_meet
              exact ⟨mo, rfl, HMo, rfl⟩
            · go_wp2_with fail
              go_meet
              exact ⟨1152921504606846976, rfl, ⟨Nat.le_refl _⟩, rfl⟩
          case rest =>
            obtain ⟨mo, rfl, HMo, rfl⟩ := hcut
            have im : (mo : Int) ≤ 9223372036854775800 := by have := HMo.out; omega
            go_wp2_with fail
            refine (within_any xj ((q : Int) + 1) _ Hx.out (by omega)).mono ?_
            rintro e w6 ⟨⟨hv, rfl, g⟩, rfl⟩
            have ih : (hv : Int) ≤ (q : Int) := by omega
            clear g
            go_wp2_with fail
            refine (HT.out w4.heap.size w4.heap.size d hv mo vv zs _ HWy.out.le (by omega) HO.out (by have := Hj.out; omega)).mono ?_
            rintro e w7 ⟨tt, v7, rfl, hbest, hO7, hk7, _⟩
            have htq := hbest.le HL0.out HWy.out.le
            have hle := HWy.out.le
            have hS := mny_add (q := q) (a := m) (d := d) (p := tt)
            have hSm := HSL.out (d + tt) (by omega)
            have HW7 := Held.mk (HWy.out.next htq)
            have hth : ¬ hv < tt := fun h => by have := hbest.there HL0.out hle (by omega); omega
            have hty : ¬ mo < mny q m d tt := fun h => by
              rcases Nat.eq_zero_or_pos tt with h0 | h0
              · subst h0; rw [mny_zero] at h; omega
              · have := hbest.there HL0.out hle h0; omega
            have hway : (¬ 0 < tt) ∨ (0 < tt ∧ ((d : Int) + (tt : Int) != (q : Int)) = false) ∨ (0 < tt ∧ (tt : Int) % (l : Int) = 0 ∧ tt % l = 0) := by
              rcases Nat.eq_zero_or_pos tt with h0 | h0
              · exact .inl (by omega)
              · rcases hbest.whole h0 with h1 | h1
                · refine .inr (.inl ⟨h0, ?_⟩)
                  have e : (d : Int) + (tt : Int) = (q : Int) := by omega
                  rw [e]; simp
                · exact .inr (.inr ⟨h0, by have := h1.1; omega, h1.1⟩)
            have HO7 := Held.mk hO7
            have HB7 : Held (Below w4.heap.size w4 w7) := ⟨((Keep.of_below HB.out (fun _ => False)).then hk7 (fun i hi h => by
              rcases h with h | h
              · omega
              · have := own_ge HO.out.own i h; omega)).to_below (fun _ _ h => h)⟩
            have HLe := Held.mk (HLf.out w4.heap.size w4.heap.size (d + tt) (shr q m (d + tt)) v7 _ w7 (by omega) hSm hO7)
            generalize mny q m d tt = y at *
            generalize shr q m d = p0 at *
            have e2 : ((shr q m (d + tt) : Nat) : Int) = (p0 : Int) + (y : Int) := by omega
            rw [e2, Int.natCast_add] at HLe
            have HE2 := Held.mk e2
            have d1 : decide (hv < tt) = false := decide_eq_false hth
            have d2 : decide (mo < y) = false := decide_eq_false hty
            have j1 : (d : Int) + (tt : Int) ≤ (q : Int) := by omega
            have j2 : (p0 : Int) + (y : Int) ≤ (m : Int) := by omega
            have HZl : Held ((if tt = 0 then zs else zs ++ [(tt, y)]).length ≤ j + 1) := ⟨by have := len_next (t := tt) (y := (tt, y)) (xs := zs); have := Hj.out; omega⟩
            clear hbest htq hle hS hSm hth hty hO7 hk7 hcx e2
            rcases hway with w1 | ⟨w1, w2⟩ | ⟨w1, w2, w3⟩
            all_goals
              go_wp2_with (go_at_call 12; refine HLe.out.mono ?_; rintro e w8 ⟨rfl, n8, rfl⟩)
              all_goals
                go_roundw
                case rel => exact ⟨j + 1, d + tt, v7, _, by go_num, by rw [Int.natCast_add], by rw [HE2.out], by omega, by omega, HZl, HW7, ⟨⟨HO7.out.blk.drewN _, HO7.out.ge, HO7.out.own⟩⟩, ⟨below_drewN HB7.out _⟩⟩
                case measure => simp [intOf]; omega
        · go_wp2_with fail
          go_meet
          exact ⟨d, vv, zs, rfl, rfl, ⟨by have := Hj.out; omega⟩, HWy, HO, HB⟩
      · go_wp2_with fail
        go_meet
        exact ⟨d, vv, zs, rfl, rfl, ⟨by have := Hj.out; omega⟩, HWy, HO, HB⟩
  case rest =>
    obtain ⟨d, vv, zs, rfl, rfl, Hz, HWy, HO, HB⟩ := hcut
    have hqq : (-9223372036854775808 : Int) ≤ (q : Int) ∧ (q : Int) ≤ 9223372036854775807 := by omega
    go_wp2_with fail
    refine (HT.out w4.heap.size w4.heap.size d q 1152921504606846976 vv zs _ HWy.out.le hqq HO.out (by have := Hz.out; omega)).mono ?_
    rintro e w7 ⟨tt, v7, rfl, hbest, hO7, hk7, _⟩
    have hle := HWy.out.le
    have htt : tt = q - d := by
      refine hbest.all (by omega) ?_
      have := mny_le (q := q) (a := m) (d := d) (p := q - d) HQ0.out (by omega)
      have := HM1.out
      omega
    have hS := mny_add (q := q) (a := m) (d := d) (p := tt)
    rw [show d + tt = q from by omega, HSA.out] at hS
    have hW7 := HWy.out.next (t := tt) (by omega)
    rw [show d + tt = q from by omega] at hW7
    have hlen : (if tt = 0 then zs else zs ++ [(tt, mny q m d tt)]).length ≤ 41 := by have := len_next (t := tt) (y := (tt, mny q m d tt)) (xs := zs); have := Hz.out; omega
    have hne : 0 < (if tt = 0 then zs else zs ++ [(tt, mny q m d tt)]).length := by
      rcases Nat.eq_zero_or_pos (if tt = 0 then zs else zs ++ [(tt, mny q m d tt)]).length with h | h
      · have h0 := hW7.some_ (List.eq_nil_of_length_eq_zero h)
        have := HQ0.out
        omega
      · exact h
    have HB7 : Held (Below w4.heap.size w4 w7) := ⟨((Keep.of_below HB.out (fun _ => False)).then hk7 (fun i hi h => by
      rcases h with h | h
      · omega
      · have := own_ge HO.out.own i h; omega)).to_below (fun _ _ h => h)⟩
    generalize (if tt = 0 then zs else zs ++ [(tt, mny q m d tt)]) = zf at *
    have HPa := Held.mk (Parts_in w4.heap.size w4.heap.size q m l t (d + tt) (shr q m (d + tt)) v7 zf w7 hO7 (by omega))
    have HW7 := Held.mk hW7
    have HLn := Held.mk hlen
    have HNe := Held.mk hne
    have hy0 : tt = 0 → mny q m d tt = 0 := fun h => by rw [h, mny_zero]
    generalize mny q m d tt = y at *
    generalize shr q m d = p0 at *
    have hfin : (decide (d < q) = true ∧ ((d : Int) + (tt : Int) != (q : Int)) = false ∧ ((p0 : Int) + (y : Int) != (m : Int)) = false ∧ ((d : Int) == (q : Int)) = false ∧ ¬ d = q) ∨ (d = q ∧ tt = 0 ∧ p0 + y = m ∧ y = 0) := by
      by_cases h : d < q
      · refine .inl ⟨decide_eq_true h, ?_, ?_, beq_eq_false_iff_ne.2 (by omega), by omega⟩
        · rw [show (d : Int) + (tt : Int) = (q : Int) from by omega]; simp
        · rw [show (p0 : Int) + (y : Int) = (m : Int) from by omega]; simp
      · exact .inr ⟨by omega, by omega, hS, hy0 (by omega)⟩
    have j1 : (d : Int) + (tt : Int) ≤ (q : Int) := by omega
    have j2 : (p0 : Int) + (y : Int) ≤ (m : Int) := by omega
    have HSM := Held.mk (show sumM zf = m by rw [hW7.sm, HSA.out])
    have HSQ := Held.mk (show sumQ zf = q by rw [hW7.sq])
    have HX := Held.mk (HSL.out)
    clear hbest hO7 hk7 hle htt hS hW7 hlen hne hy0 hqq
    have tail : ∀ (wz : World) (v8 : Value), Held (wz.ownsRow w7.heap.size 40 2 v8 zf.length (prs zf)) → Held (∃ g cp, v8 = .slice (some ⟨g, 0, none⟩) zf.length cp) := fun wz v8 h => ⟨by
      obtain ⟨g, cap, hv, _, _⟩ := h.out.form HNe.out
      exact ⟨g, cap, hv⟩⟩
    have HTail := Held.mk tail
    clear tail
    have hpre : (decide (d < q) = true ∧ ((d : Int) + (tt : Int) != (q : Int)) = false ∧ ((p0 : Int) + (y : Int) != (m : Int)) = false ∧ ((d : Int) == (q : Int)) = false ∧ ¬ d = q) ∨ (q = d ∧ 0 = tt ∧ m = p0 ∧ 0 = y) := hfin.imp id fun ⟨a, b, c, e⟩ => ⟨a.symm, b.symm, by omega, e.symm⟩
    clear hfin
    rcases hpre with ⟨f1, f2, f3, f4, f5⟩ | ⟨e1, e2, e3, e4⟩
    rotate_left
    subst e1
    subst e2
    subst e3
    subst e4
    all_goals
      go_wp2_with fail
      refine HPa.out.mono ?_
      rintro e w8 ⟨v8, rfl, ho8, hb8⟩
      have HO8 := Held.mk ho8
      obtain ⟨⟨g, cp, rfl⟩⟩ := HTail.out w8 v8 HO8
      have HB8 : Held (Below w4.heap.size w4 w8) := ⟨HB7.out.trans (hb8.mono HB7.out.size)⟩
      have hcells : ∀ j u, (prs zf)[j]? = some u → w8.cell? ⟨g, j, none⟩ = some u := fun j u h => by
        have := ho8.cells (g := g) rfl j u h
        rwa [add_at] at this
      have HCe := Held.mk hcells
      clear ho8 hb8 hcells
      have hz41 : zf.length ≤ 41 := HLn.out
      go_wp2_with fail
      go_loop [13, 14, 31] (fun a b i => ∃ k : Nat, i = .int .i64 k ∧ a = .int .i64 ((q : Int) - (sumQ (zf.take k) : Nat)) ∧ b = .int .i64 ((m : Int) - (sumM (zf.take k) : Nat)) ∧ k ≤ zf.length) (fun _ _ i => 41 - (intOf i).toNat)
      case atStart => exact ⟨0, rfl, by simp [sumQ], by simp [sumM], Nat.zero_le _⟩
      case round =>
        obtain ⟨k, rfl, rfl, rfl, hk⟩ := hrel
        have s1 := sumQ_part zf k
        have s2 := sumM_part zf k
        by_cases hlt : k < zf.length
        · obtain ⟨p1, p2⟩ := prs_at zf k hlt
          have c1 := HCe.out _ _ p1
          have c2 := HCe.out _ _ p2
          have t1 := sumQ_take zf k hlt
          have t2 := sumM_take zf k hlt
          have s3 := sumQ_part zf (k + 1)
          have s4 := sumM_part zf (k + 1)
          rw [HSQ.out] at s1 s3
          rw [HSM.out] at s2 s4
          generalize (zf[k]).1 = z1 at *
          generalize (zf[k]).2 = z2 at *
          have HT1 := Held.mk t1
          have HT2 := Held.mk t2
          have j3 : (sumQ (zf.take k) : Int) + (z1 : Int) ≤ (q : Int) := by omega
          have j4 : (sumM (zf.take k) : Int) + (z2 : Int) ≤ (m : Int) := by omega
          have HK1 : Held (((q : Int) - (sumQ (zf.take k) : Nat)) - (z1 : Int) = (q : Int) - (sumQ (zf.take (k + 1)) : Nat)) := ⟨by rw [HT1.out]; omega⟩
          have HK2 : Held (((m : Int) - (sumM (zf.take k) : Nat)) - (z2 : Int) = (m : Int) - (sumM (zf.take (k + 1)) : Nat)) := ⟨by rw [HT2.out]; omega⟩
          clear t1 t2 s1 s2 s3 s4 p1 p2
          generalize sumQ (zf.take k) = sq at *
          generalize sumM (zf.take k) = sm at *
          go_wp2
          go_round
          case rel => exact ⟨k + 1, by go_num, by rw [HK1.out], by rw [HK2.out], by omega⟩
          case measure => simp [intOf]; omega
        · obtain rfl : k = zf.length := by omega
          rw [List.take_length, HSQ.out, HSM.out]
          rw [Int.sub_self, Int.sub_self]
          go_wp2_with fail
          refine (pick_in zf.length 1073741824 w8 (by omega) (by decide)).mono ?_
          rintro e w9 ⟨rfl, rfl⟩
          have h0 : 0 < zf.length := HNe.out
          go_wp2
          go_ret
          exact ⟨rfl, HB8.out⟩
end Prt
end Go.Proofs.Ytpbkmkclagikhaa
