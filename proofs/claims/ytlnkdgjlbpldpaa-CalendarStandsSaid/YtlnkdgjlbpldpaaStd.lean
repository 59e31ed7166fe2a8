/- CalendarStands: the walk. -/
import Derived.Test.YtlnkdgjlbpldpaaStp
namespace Go.Proofs.Ytlnkdgjlbpldpaa
set_option linter.unusedVariables false
set_option linter.unusedSimpArgs false
namespace Cal
open Go.RowKit Mem Go.Proofs.YtlnkdgjlbpldpaaW.PrintLast Go.Maps

/-! Plain. -/
theorem sameM_symm {n m : Int} (h : sameM n m) : sameM m n := by
  obtain ⟨y, mo, d, d', r1, e1, r2, e2⟩ := h
  exact ⟨y, mo, d', d, r2, e2, r1, e1⟩
theorem sameM_mid {n m i : Int} (h : sameM n i) (h1 : n ≤ m) (h2 : m ≤ i) : sameM n m := by
  obtain ⟨y, mo, d, d', r1, e1, r2, e2⟩ := h
  rw [num_cum] at e1 e2
  refine ⟨y, mo, d, d + (m - n), r1, by rw [num_cum]; exact e1, ⟨r1.y1, r1.y2, r1.m1, r1.m2, by have := r1.d1; omega, by have := r2.d2; omega⟩, by rw [num_cum]; omega⟩
theorem sameM_mid' {n m i : Int} (h : sameM i n) (h1 : i ≤ m) (h2 : m ≤ n) : sameM m n := by
  obtain ⟨y, mo, d, d', r1, e1, r2, e2⟩ := h
  rw [num_cum] at e1 e2
  refine ⟨y, mo, d' - (n - m), d', ⟨r2.y1, r2.y2, r2.m1, r2.m2, by have := r1.d1; omega, by have := r2.d2; omega⟩, by rw [num_cum]; omega, r2, by rw [num_cum]; exact e2⟩
theorem NextR.here {B : Int → Bool} {s n m : Int} (h : NextR B s n m) (hb : B n = true) : m = n := by
  obtain ⟨k, hm, hk, _⟩ := h
  by_cases h0 : k = 0
  · subst h0; simpa using hm
  · have := (hk 0 (by omega)).2
    simp at this
    rw [hb] at this
    cases this
/-- What an answer of Adjust is. -/
structure AdjP (B : Int → Bool) (n c : Int) (r : Option Int) : Prop where
  here : B n = true → r = some n
  day : ∀ x, r = some x → isD x ∧ B x = true
  up : ∀ x, r = some x → c = 0 → n ≤ x
  down : ∀ x, r = some x → c = 2 → x ≤ n
  upNo : ∀ x, r = some x → c = 0 → ∀ i, n ≤ i → i < x → B i = false
  downNo : ∀ x, r = some x → c = 2 → ∀ i, x < i → i ≤ n → B i = false
  month : ∀ x, r = some x → (c = 1 ∨ c = 3) → (∃ i, isD i ∧ B i = true ∧ sameM i n) → sameM x n
theorem AdjP.none_ {B : Int → Bool} {n c : Int} (h : ¬ B n = true) : AdjP B n c none :=
  ⟨fun hb => absurd hb h, fun _ hx => (nomatch hx), fun _ hx => (nomatch hx), fun _ hx => (nomatch hx), fun _ hx => (nomatch hx), fun _ hx => (nomatch hx), fun _ hx => (nomatch hx)⟩
theorem adj_fit {B : Int → Bool} {n c : Int} {w w' : World} {e : Ending} (hn : isD n) (hdom : ∀ i, B i = true → isD i) (hc : c = 0 ∨ c = 1 ∨ c = 2 ∨ c = 3) (h : adjRes B n c w e w') : ∃ r, e = .returned (addV r) ∧ AdjP B n c r ∧ Below w.heap.size w w' := by
  obtain ⟨hb, m, hm, hm0, hm1, h⟩ := h
  have he := hm
  obtain ⟨_, _, _, he⟩ := he
  obtain ⟨hn1, hn2⟩ := hn
  rcases hc with rfl | rfl | rfl | rfl
  · rw [if_pos (by decide)] at hm h
    obtain ⟨u1, u2, u3, u4⟩ := hm.up (by omega) (by omega)
    rcases h with ⟨hd, rfl⟩ | ⟨hd, rfl⟩
    · refine ⟨some m, rfl, ⟨fun hb => by rw [hm.here hb], fun x hx => ?_, fun x hx _ => ?_, fun x hx h => by omega, fun x hx _ => ?_, fun x hx h => by omega, fun x hx h => by omega⟩, hb⟩ <;> (obtain rfl : m = x := by injection hx) <;> first | exact ⟨hd, he hd⟩ | exact u1 | exact u4
    · exact ⟨none, rfl, AdjP.none_ (fun hb => hd (by rw [hm.here hb]; exact ⟨hn1, hn2⟩)), hb⟩
  · rw [if_pos (by decide)] at hm
    rw [if_neg (by decide)] at h
    obtain ⟨u1, u2, u3, u4⟩ := hm.up (by omega) (by omega)
    rcases h with ⟨hd, hs, rfl⟩ | ⟨hno, m', hm', hm0', hm1', h⟩
    · refine ⟨some m, rfl, ⟨fun hb => by rw [hm.here hb], fun x hx => ?_, fun x hx h => by omega, fun x hx h => by omega, fun x hx h => by omega, fun x hx h => by omega, fun x hx _ _ => ?_⟩, hb⟩ <;> (obtain rfl : m = x := by injection hx) <;> first | exact ⟨hd, he hd⟩ | exact sameM_symm hs
    · rw [if_pos (by decide)] at hm'
      have he' := hm'
      obtain ⟨_, _, _, he'⟩ := he'
      obtain ⟨v1, v2, v3, v4⟩ := hm'.down (by omega) (by omega)
      rcases h with ⟨hd, rfl⟩ | ⟨hd, rfl⟩
      · refine ⟨some m', rfl, ⟨fun hb => by rw [hm'.here hb], fun x hx => ?_, fun x hx h => by omega, fun x hx h => by omega, fun x hx h => by omega, fun x hx h => by omega, fun x hx _ => ?_⟩, hb⟩ <;> (obtain rfl : m' = x := by injection hx)
        · exact ⟨hd, he' hd⟩
        · rintro ⟨i, hi, hbi, hsi⟩
          by_cases hin : n ≤ i
          · exfalso
            have hmi : m ≤ i := by
              by_cases h : m ≤ i
              · exact h
              · have := u4 i hin (by omega)
                rw [hbi] at this
                cases this
            exact hno ⟨⟨by omega, by have := hi.2; omega⟩, sameM_mid (sameM_symm hsi) u1 hmi⟩
          · have hmi : i ≤ m' := by
              by_cases h : i ≤ m'
              · exact h
              · have := v4 i (by omega) (by omega)
                rw [hbi] at this
                cases this
            exact sameM_mid' hsi hmi v1
      · exact ⟨none, rfl, AdjP.none_ (fun hb => hd (by rw [hm'.here hb]; exact ⟨hn1, hn2⟩)), hb⟩
  · rw [if_neg (by decide)] at hm
    rw [if_pos (by decide)] at h
    obtain ⟨u1, u2, u3, u4⟩ := hm.down (by omega) (by omega)
    rcases h with ⟨hd, rfl⟩ | ⟨hd, rfl⟩
    · refine ⟨some m, rfl, ⟨fun hb => by rw [hm.here hb], fun x hx => ?_, fun x hx h => by omega, fun x hx _ => ?_, fun x hx h => by omega, fun x hx _ => ?_, fun x hx h => by omega⟩, hb⟩ <;> (obtain rfl : m = x := by injection hx) <;> first | exact ⟨hd, he hd⟩ | exact u1 | exact u4
    · exact ⟨none, rfl, AdjP.none_ (fun hb => hd (by rw [hm.here hb]; exact ⟨hn1, hn2⟩)), hb⟩
  · rw [if_neg (by decide)] at hm
    rw [if_neg (by decide)] at h
    obtain ⟨u1, u2, u3, u4⟩ := hm.down (by omega) (by omega)
    rcases h with ⟨hd, hs, rfl⟩ | ⟨hno, m', hm', hm0', hm1', h⟩
    · refine ⟨some m, rfl, ⟨fun hb => by rw [hm.here hb], fun x hx => ?_, fun x hx h => by omega, fun x hx h => by omega, fun x hx h => by omega, fun x hx h => by omega, fun x hx _ _ => ?_⟩, hb⟩ <;> (obtain rfl : m = x := by injection hx) <;> first | exact ⟨hd, he hd⟩ | exact sameM_symm hs
    · rw [if_neg (by decide)] at hm'
      have he' := hm'
      obtain ⟨_, _, _, he'⟩ := he'
      obtain ⟨v1, v2, v3, v4⟩ := hm'.up (by omega) (by omega)
      rcases h with ⟨hd, rfl⟩ | ⟨hd, rfl⟩
      · refine ⟨some m', rfl, ⟨fun hb => by rw [hm'.here hb], fun x hx => ?_, fun x hx h => by omega, fun x hx h => by omega, fun x hx h => by omega, fun x hx h => by omega, fun x hx _ => ?_⟩, hb⟩ <;> (obtain rfl : m' = x := by injection hx)
        · exact ⟨hd, he' hd⟩
        · rintro ⟨i, hi, hbi, hsi⟩
          by_cases hin : i ≤ n
          · exfalso
            have hmi : i ≤ m := by
              by_cases h : i ≤ m
              · exact h
              · have := u4 i (by omega) hin
                rw [hbi] at this
                cases this
            exact hno ⟨⟨by have := hi.1; omega, by omega⟩, sameM_symm (sameM_mid' hsi hmi u1)⟩
          · have hmi : m' ≤ i := by
              by_cases h : m' ≤ i
              · exact h
              · have := v4 i (by omega) (by omega)
                rw [hbi] at this
                cases this
            exact sameM_symm (sameM_mid (sameM_symm hsi) v1 hmi)
      · exact ⟨none, rfl, AdjP.none_ (fun hb => hd (by rw [hm'.here hb]; exact ⟨hn1, hn2⟩)), hb⟩

def hasBRes (B : Int → Bool) (n : Int) (w : World) (e : Ending) (w' : World) : Prop := ∃ q : Bool, (q = true → ∃ i, isD i ∧ B i = true ∧ sameM i n) ∧ e = .returned (.bool q) ∧ Below w.heap.size w w'
set_option maxHeartbeats 4000000 in
set_option maxRecDepth 100000 in
theorem hasB_any (g b : Nat) (wk : List Bool) (l : List Int) (n : Int) (w : World) (hc : CalW w g b wk l) (hn : isD n) :
    Calls Try.prog 20 #[.pointer (some ⟨g, 0, none⟩), .int .i64 n] w (hasBRes (busB wk l) n w) := by
  have HC := Held.mk hc
  have Hn := Held.mk hn
  obtain ⟨hn1, hn2⟩ := hn
  clear hc
  go_enter Try.func20, Try.ntmps20
  go_wp2
  go_loopw [5] (fun u wr => ∃ i : Int, u = .int .i64 i ∧ n - 31 ≤ i ∧ i ≤ n + 32 ∧ Held (Below w.heap.size w wr)) (fun u _ => (n + 32 - intOf u).toNat)
  case atStart => exact ⟨n - 31, rfl, by omega, by omega, ⟨Below.refl _ _⟩⟩
  case round =>
    obtain ⟨i, rfl, hi1, hi2, HB⟩ := hrel
    by_cases hlt : i < n + 32
    · go_wp2_with fail
      refine (business_any g b wk l i wr (HC.out.below HB.out)).mono ?_
      rintro e w1 ⟨rfl, hb1⟩
      have HB1 : Held (Below w.heap.size w w1) := ⟨HB.out.trans (hb1.mono HB.out.size)⟩
      clear hb1
      have HR : Held (busB wk l i = true ∨ busB wk l i = false) := ⟨by cases busB wk l i <;> simp⟩
      rcases HR.out with hr | hr
      · have Hr := Held.mk hr
        rw [hr]
        clear hr HR
        go_wp2_with fail
        refine (month_in i n w1 (busB_day Hr.out) Hn.out).mono ?_
        rintro e w2 ⟨q, hq, rfl, hb2⟩
        have HB2 : Held (Below w.heap.size w w2) := ⟨HB1.out.trans (hb2.mono HB1.out.size)⟩
        have Hq := Held.mk hq
        clear hb2 hq
        cases q
        · go_wp2
          go_roundw
          case rel => exact ⟨i + 1, by go_num, by omega, by omega, HB2⟩
          case measure => simp [intOf]; omega
        · go_wp2
          go_ret
          exact ⟨true, fun _ => ⟨i, busB_day Hr.out, Hr.out, Hq.out.1 (by simp)⟩, rfl, HB2.out⟩
      · have Hr := Held.mk hr
        rw [hr]
        clear hr HR
        go_wp2
        go_roundw
        case rel => exact ⟨i + 1, by go_num, by omega, by omega, HB1⟩
        case measure => simp [intOf]; omega
    · go_wp2
      go_ret
      exact ⟨false, fun h => (nomatch h), rfl, HB.out⟩
end Cal
end Go.Proofs.Ytlnkdgjlbpldpaa
