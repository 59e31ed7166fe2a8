/- Rows of rows of bytes, read; SameRecords: walked. -/
import Derived.Test.YtihgmlcmdpmhhaaJpl
import Derived.Test.YtihgmlcmdpmhhaaKept
import Derived.Deep.QuietTactic
import Derived.BigQuiet
namespace Go.Proofs.Ytihgmlcmdpmhhaa
set_option linter.unusedVariables false
set_option linter.unusedSimpArgs false
namespace Jrn
open Go.RowKit Mem Apn Wire
/-- A slice of slices of bytes that reads as these rows. -/
structure RdR (w : World) (ok : Nat → Prop) (A : Option Addr) (n : Nat) (xs : List (List Int)) : Prop where
  len : xs.length = n
  ex : ∃ V : Nat → Value, RdV w ok 1 A n ((List.range n).map V) ∧ ∀ j, j < n → ∃ a c, V j = .slice a (xs.getD j []).length c ∧ (xs.getD j []).length ≤ c ∧ RdN w ok .u8 a (xs.getD j []).length (xs.getD j [])
theorem RdR.keep {w w' : World} {ok : Nat → Prop} {A : Option Addr} {n : Nat} {xs : List (List Int)} (h : RdR w ok A n xs) {S : Nat → Prop} (hk : Keep S w w') (hs : ∀ k, ok k → ¬ S k) : RdR w' ok A n xs := by
  obtain ⟨V, h1, h2⟩ := h.ex
  exact ⟨h.len, V, h1.keep hk hs, fun j hj => by obtain ⟨a, c, e, hc, hr⟩ := h2 j hj; exact ⟨a, c, e, hc, hr.keep hk hs⟩⟩
theorem RdR.mono {w : World} {ok ok' : Nat → Prop} {A : Option Addr} {n : Nat} {xs : List (List Int)} (h : RdR w ok A n xs) (hs : ∀ k, ok k → ok' k) : RdR w ok' A n xs := by
  obtain ⟨V, h1, h2⟩ := h.ex
  exact ⟨h.len, V, h1.mono hs, fun j hj => by obtain ⟨a, c, e, hc, hr⟩ := h2 j hj; exact ⟨a, c, e, hc, RdV.mono hr hs⟩⟩
theorem RdR.drewN {w : World} {ok : Nat → Prop} {A : Option Addr} {n : Nat} {xs : List (List Int)} (h : RdR w ok A n xs) (m : Nat) : RdR (w.drewN m) ok A n xs :=
  h.keep ((Keep.refl (fun _ => False) w).drewN m) (fun _ _ h => h)
theorem RdR.at_ {w : World} {ok : Nat → Prop} {A : Option Addr} {n : Nat} {xs : List (List Int)} (h : RdR w ok A n xs) {j : Nat} (hj : j < n) :
    ∃ ad a c, A = some ad ∧ w.cell? (ad.add j) = some (.slice a (xs.getD j []).length c) ∧ (xs.getD j []).length ≤ c ∧ RdN w ok .u8 a (xs.getD j []).length (xs.getD j []) := by
  obtain ⟨V, h1, h2⟩ := h.ex
  obtain ⟨ad, e, _, hc⟩ := h1.2 (by omega)
  obtain ⟨a, c, ev, hc2, hr⟩ := h2 j hj
  refine ⟨ad, a, c, e, ?_, hc2, hr⟩
  rw [← ev]
  exact hc j _ (by rw [List.getElem?_map, List.getElem?_range hj]; rfl)
theorem RdR.front {w : World} {ok : Nat → Prop} {A : Option Addr} {n m : Nat} {xs : List (List Int)} (h : RdR w ok A n xs) (hm : m ≤ n) : RdR w ok A m (xs.take m) := by
  obtain ⟨V, h1, h2⟩ := h.ex
  refine ⟨by rw [List.length_take, h.len]; omega, V, ?_, fun j hj => ?_⟩
  · have := RdV.front h1 (k := m) hm
    rw [← List.map_take, List.take_range] at this
    rwa [Nat.mul_one, Nat.min_eq_left hm] at this
  · have e : (xs.take m).getD j [] = xs.getD j [] := by
      rw [List.getD_eq_getElem?_getD, List.getD_eq_getElem?_getD, List.getElem?_take, if_pos hj]
    rw [e]
    exact h2 j (by omega)
theorem Rows.rd {w : World} {base : Nat} {v : Value} {xs : List (List Int)} (h : Rows w base v xs) : ∃ A c, v = .slice A xs.length c ∧ xs.length ≤ c ∧ RdR w (fun k => base ≤ k ∧ k < w.heap.size) A xs.length xs := by
  obtain ⟨V, h1, h2, h3⟩ := h.ex
  obtain ⟨A, c, rfl, hc, hr⟩ := RdV.of_own h1
  refine ⟨A, c, rfl, hc, rfl, V, hr.mono (fun k e => ⟨own_ge h1 k e, own_lt h1 k e⟩), fun j hj => ?_⟩
  have h4 := h2 j hj
  obtain ⟨a, c', e, hc', hr'⟩ := RdN.of_own h4
  have ej : xs.getD j [] = xs[j] := by rw [List.getD_eq_getElem?_getD, List.getElem?_eq_getElem hj]; rfl
  rw [ej]
  exact ⟨a, c', e, hc', RdV.mono hr' (fun k e => ⟨own_ge h4 k e, own_lt h4 k e⟩)⟩
theorem quiet_add {P : Program} {f : FuncId} {args : Array Value} {w : World} {a n : Nat} {v : Value}
    (h : Calls P f args (w.drewN (a + n)) fun e w' => e = .returned v ∧ ∃ m, w' = (w.drewN (a + n)).drewN m) :
    Calls P f args (w.drewN (a + n)) fun e w'' => e = .returned v ∧ ∃ m, w'' = w.drewN (a + m) :=
  h.mono fun _ _ ⟨he, m, hm⟩ => ⟨he, n + m, by rw [hm, World.drewN_drewN, Nat.add_assoc]⟩
set_option maxHeartbeats 2000000 in
set_option maxRecDepth 100000 in
theorem samerec_any (ok ok' : Nat → Prop) (A A' : Option Addr) (n n' c c' : Nat) (xs ys : List (List Int)) (w : World) (hr : RdR w ok A n xs) (hr' : RdR w ok' A' n' ys) (hl : n ≤ 9223372036854775807) (hl' : n' ≤ 9223372036854775807)
    (hx : ∀ r ∈ xs, r.length ≤ 9223372036854775807) (hy : ∀ r ∈ ys, r.length ≤ 9223372036854775807) :
    Calls Try.prog 8 #[.slice A n c, .slice A' n' c'] w fun e w' => e = .returned (.bool (decide (xs = ys))) ∧ ∃ m, w' = w.drewN m := by
  have h1 := Held.mk hr.len
  have h2 := Held.mk hr'.len
  have Hr := Held.mk hr
  have Hr' := Held.mk hr'
  have Hx := Held.mk hx
  have Hy := Held.mk hy
  clear hr hr' hx hy
  by_cases hn : n = n'
  · subst hn
    have h0 : ((n : Int) != n) = false := by simp
    go_enter Try.func8, Try.ntmps8
    go_wp2
    go_loopw [5] (fun i wr => ∃ k m : Nat, i = .int .i64 k ∧ k ≤ n ∧ Held (xs.take k = ys.take k) ∧ wr = w.drewN m) (fun i _ => n - (intOf i).toNat)
    case atStart => exact ⟨0, 0, rfl, Nat.zero_le _, ⟨rfl⟩, rfl⟩
    case round =>
      obtain ⟨k, m, rfl, hk, he, rfl⟩ := hrel
      by_cases hlt : k < n
      · obtain ⟨ad1, a1, d1, rfl, hc1, hd1, hr1⟩ := Hr.out.at_ hlt
        obtain ⟨ad2, a2, d2, rfl, hc2, hd2, hr2⟩ := Hr'.out.at_ hlt
        have hk1 : (k : Int) < n := by omega
        have ex : xs.take (k + 1) = xs.take k ++ [xs.getD k []] := by
          rw [List.take_succ_eq_append_getElem (by rw [h1.out]; exact hlt), List.getD_eq_getElem?_getD, List.getElem?_eq_getElem (by rw [h1.out]; exact hlt)]; rfl
        have ey : ys.take (k + 1) = ys.take k ++ [ys.getD k []] := by
          rw [List.take_succ_eq_append_getElem (by rw [h2.out]; exact hlt), List.getD_eq_getElem?_getD, List.getElem?_eq_getElem (by rw [h2.out]; exact hlt)]; rfl
        have lx : (xs.getD k []).length ≤ 9223372036854775807 := by
          rw [List.getD_eq_getElem?_getD, List.getElem?_eq_getElem (by rw [h1.out]; exact hlt)]; exact Hx.out _ (List.getElem_mem _)
        have ly : (ys.getD k []).length ≤ 9223372036854775807 := by
          rw [List.getD_eq_getElem?_getD, List.getElem?_eq_getElem (by rw [h2.out]; exact hlt)]; exact Hy.out _ (List.getElem_mem _)
        have HC1 := Held.mk (fun M => Kit.same_any ok ok' a1 a2 _ _ d1 d2 (xs.getD k []) (ys.getD k []) (w.drewN M) (hr1.keep ((Keep.refl (fun _ => False) w).drewN M) (fun _ _ h => h)) (hr2.keep ((Keep.refl (fun _ => False) w).drewN M) (fun _ _ h => h)) lx ly)
        clear hr1 hr2 hd1 hd2 lx ly
        generalize xs.getD k [] = a at *
        generalize ys.getD k [] = b at *
        have Ex := Held.mk ex
        have Ey := Held.mk ey
        obtain ⟨l1, hl1⟩ : ∃ l, a.length = l := ⟨_, rfl⟩
        obtain ⟨l2, hl2⟩ : ∃ l, b.length = l := ⟨_, rfl⟩
        simp only [hl1] at HC1 hc1
        simp only [hl2] at HC1 hc2
        clear ex ey hl1 hl2
        by_cases hab : a = b
        · have HE := Held.mk hab
          simp only [decide_eq_true hab] at HC1
          clear hab
          go_wp2
          go_quiet ((go_at_call 14; first | exact Calls.quiet_of (HC1.out _) | exact quiet_add (HC1.out _)))
          go_wp2
          go_roundw
          case rel => exact ⟨k + 1, _, by go_num, by omega, ⟨by rw [Ex.out, Ey.out, he.out, HE.out]⟩, by first | rfl | exact World.drewN_drewN ..⟩
          case measure => simp [intOf]; omega
        · have hfin : Held (decide (xs = ys) = false) := ⟨by
            simp only [decide_eq_false_iff_not]
            intro e
            have := Ex.out.symm.trans ((congrArg (·.take (k + 1)) e).trans Ey.out)
            simp at this
            exact hab this.2⟩
          simp only [decide_eq_false hab] at HC1
          clear hab
          go_wp2
          go_quiet ((go_at_call 14; first | exact Calls.quiet_of (HC1.out _) | exact quiet_add (HC1.out _)))
          go_wp2
          go_ret
          rw [hfin.out]
          exact ⟨rfl, _, by first | rfl | exact World.drewN_drewN ..⟩
      · go_wp2
        go_ret
        have : xs = ys := by
          have := he.out
          rwa [List.take_of_length_le (by rw [h1.out]; omega), List.take_of_length_le (by rw [h2.out]; omega)] at this
        rw [this]
        exact ⟨by simp, _, rfl⟩
  · have h0 : ((n : Int) != n') = true := by rw [bne_iff_ne]; omega
    have hfin : Held (decide (xs = ys) = false) := ⟨by
      simp only [decide_eq_false_iff_not]
      intro e
      apply hn
      rw [← h1.out, ← h2.out, e]⟩
    go_enter Try.func8, Try.ntmps8
    go_wp2
    go_ret
    rw [hfin.out]
    exact ⟨rfl, 0, rfl⟩
end Jrn
end Go.Proofs.Ytihgmlcmdpmhhaa
