/- The document's Groups; told: walked. -/
import Derived.Test.YtgmanmbicoofgaaDoorGpa
namespace Go.Proofs.YtgmanmbicoofgaaDoor
set_option linter.unusedVariables false
set_option linter.unusedSimpArgs false
namespace Grp
open Go.RowKit Mem Err
set_option maxHeartbeats 4000000 in
set_option maxRecDepth 100000 in
theorem names_any (n a b : Int) (w : World) : Calls Tryd.prog 70 #[.int .i64 n, .agg #[.int .i64 a, .int .i64 b]] w fun e w' => e = .returned (.bool (decide (0 ≤ a ∧ a < n ∧ 0 ≤ b ∧ b < n))) ∧ Below w.heap.size w w' := by
  have HB : Held (Below w.heap.size w (w.alloc (.cells #[.int .i64 a, .int .i64 b] 73))) := ⟨(Below.refl _ _).alloc (Nat.le_refl _) _⟩
  by_cases h1 : 0 ≤ a
  · by_cases h2 : a < n
    · by_cases h3 : 0 ≤ b
      · by_cases h4 : b < n
        · rw [decide_eq_true (show 0 ≤ a ∧ a < n ∧ 0 ≤ b ∧ b < n from ⟨h1, h2, h3, h4⟩)]
          go_enter Tryd.func70, Tryd.ntmps70
          go_wp2
          go_ret
          exact ⟨rfl, HB.out⟩
        · rw [decide_eq_false (show ¬ (0 ≤ a ∧ a < n ∧ 0 ≤ b ∧ b < n) from fun h => h4 h.2.2.2)]
          go_enter Tryd.func70, Tryd.ntmps70
          go_wp2
          go_ret
          exact ⟨rfl, HB.out⟩
      · rw [decide_eq_false (show ¬ (0 ≤ a ∧ a < n ∧ 0 ≤ b ∧ b < n) from fun h => h3 h.2.2.1)]
        go_enter Tryd.func70, Tryd.ntmps70
        go_wp2
        go_ret
        exact ⟨rfl, HB.out⟩
    · rw [decide_eq_false (show ¬ (0 ≤ a ∧ a < n ∧ 0 ≤ b ∧ b < n) from fun h => h2 h.2.1)]
      go_enter Tryd.func70, Tryd.ntmps70
      go_wp2
      go_ret
      exact ⟨rfl, HB.out⟩
  · rw [decide_eq_false (show ¬ (0 ≤ a ∧ a < n ∧ 0 ≤ b ∧ b < n) from fun h => h1 h.1)]
    go_enter Tryd.func70, Tryd.ntmps70
    go_wp2
    go_ret
    exact ⟨rfl, HB.out⟩
set_option maxHeartbeats 4000000 in
set_option maxRecDepth 100000 in
/-- The place of the first pair that names no things: e, at most as far as the row. -/
theorem lost_any (n : Int) (A : Option Addr) (m c e0 : Nat) (l : List Two) (ok : Nat → Prop) (w : World) (hm : m = l.length) (hb : m ≤ 8796093022208) (h : RdT w ok A l) (he : e0 ≤ l.length) (hgo : ∀ j, (hj : j < e0) → Nms n (l[j]'(Nat.lt_of_lt_of_le hj he))) (hbad : ∀ h : e0 < l.length, ¬ Nms n l[e0]) :
    Calls Tryd.prog 39 #[.int .i64 n, .slice A m c] w fun e w' => e = .returned (.int .i64 (if e0 < l.length then (e0 : Int) else -1)) ∧ Below w.heap.size w w' := by
  have HA := Held.mk h
  have HG := Held.mk hgo
  have HBd := Held.mk hbad
  have him : e0 ≤ m := by omega
  have HM := Held.mk hm
  clear h hgo hbad hm
  go_enter Tryd.func39, Tryd.ntmps39
  go_wp2
  go_loopw [5] (fun i wr => ∃ k : Nat, i = .int .i64 k ∧ k ≤ e0 ∧ Held (Below w.heap.size w wr)) (fun i _ => e0 - (intOf i).toNat)
  case atStart => exact ⟨0, rfl, Nat.zero_le _, ⟨Below.refl _ _⟩⟩
  case round =>
    obtain ⟨k, rfl, hk, HB⟩ := hrel
    by_cases hkm : k < m
    · have hkp : k < l.length := by have := HM.out; omega
      obtain ⟨ad, rfl, hak, c0, c1⟩ := (show RdT wr ok A l from RdV.keep HA.out (Keep.of_below HB.out (fun _ => False)) (fun _ _ h => h)).at_ hkp
      by_cases hlt : k < e0
      · have hpk := HG.out k hlt
        unfold Nms at hpk
        have HNm := Held.mk (names_any n l[k].a l[k].b wr)
        rw [decide_eq_true hpk] at HNm
        clear hpk
        generalize l[k].a = a at *
        generalize l[k].b = b at *
        go_wp2_with fail
        refine HNm.out.mono ?_
        rintro e w2 ⟨rfl, hb2⟩
        have HBn : Held (Below w.heap.size w w2) := ⟨HB.out.trans (hb2.mono HB.out.size)⟩
        clear hb2
        go_wp2_with fail
        go_roundw
        case rel => exact ⟨k + 1, by go_num, by omega, HBn⟩
        case measure => simp [intOf]; omega
      · obtain rfl : k = e0 := by omega
        have hpk := HBd.out hkp
        unfold Nms at hpk
        have HNm := Held.mk (names_any n l[k].a l[k].b wr)
        rw [decide_eq_false hpk] at HNm
        clear hpk
        generalize l[k].a = a at *
        generalize l[k].b = b at *
        go_wp2_with fail
        refine HNm.out.mono ?_
        rintro e w2 ⟨rfl, hb2⟩
        have HBn : Held (Below w.heap.size w w2) := ⟨HB.out.trans (hb2.mono HB.out.size)⟩
        clear hb2
        go_wp2_with fail
        go_ret
        refine ⟨?_, HBn.out⟩
        first
          | rfl
          | (rw [if_pos hkp]; rfl)
    · obtain rfl : k = m := by omega
      have hke : ¬ e0 < l.length := by have := HM.out; omega
      go_wp2_with fail
      go_ret
      refine ⟨?_, HB.out⟩
      first
        | rfl
        | (rw [if_neg hke]; rfl)
theorem rsize_ok (n : Int) (w : World) (h0 : ¬ n < 0) (h1 : ¬ 4096 < n) : Calls Tryd.prog 38 #[.int .i64 n] w fun e w' => e = .returned (.int .i64 0) ∧ w' = w := by
  go_enter Tryd.func38, Tryd.ntmps38
  go_wp2
  go_ret
  exact ⟨rfl, rfl⟩
set_option maxHeartbeats 4000000 in
set_option maxRecDepth 100000 in
theorem rGroups_any (n : Int) (A : Option Addr) (m c : Nat) (l : List Two) (ok : Nat → Prop) (w : World) (G : List Nat) (E : Value) (no at_ : Int) (hans : Ans n l G E no at_) (hm : m = l.length) (hb : m ≤ 8796093022208) (h : RdT w ok A l) (hok : ∀ k, ok k → k < w.heap.size) :
    Calls Tryd.prog 8 #[.int .i64 n, .slice A m c] w fun e w' => ∃ v, e = .returned (.tuple #[v, .int .i64 no, .int .i64 at_]) ∧ w'.ownsRow w.heap.size 3 1 v G.length (ints G) ∧ Below w.heap.size w w' := by
  cases hans with
  | neg hn =>
    go_enter Tryd.func8, Tryd.ntmps8
    go_wp2
    go_ret3
    exact ⟨_, rfl, own_nil _ _ _ _, Below.refl _ _⟩
  | many hn =>
    have h1 : ¬ n < 0 := by omega
    go_enter Tryd.func8, Tryd.ntmps8
    go_wp2
    go_ret3
    exact ⟨_, rfl, own_nil _ _ _ _, Below.refl _ _⟩
  | lost i hi h0 h1 hgo hbad =>
    have HN := Held.mk (lost_any n A m c i l ok w hm hb h (Nat.le_of_lt hi) hgo (fun _ => hbad))
    rw [if_pos hi] at HN
    have h0' : ¬ n < 0 := by omega
    have h1' : ¬ 4096 < n := by omega
    have hi0 : (0 : Int) ≤ i := by omega
    clear h hgo hbad hm hok
    go_enter Tryd.func8, Tryd.ntmps8
    go_wp2_with fail
    refine (rsize_ok n w (by omega) (by omega)).mono ?_
    rintro e w1 ⟨rfl, rfl⟩
    go_wp2_with fail
    refine HN.out.mono ?_
    rintro e w2 ⟨rfl, hb1⟩
    go_wp2_with fail
    go_ret3
    exact ⟨_, rfl, own_nil _ _ _ _, hb1⟩
  | fine h0 h1 hf =>
    obtain ⟨k, rfl⟩ : ∃ k : Nat, n = k := ⟨n.toNat, by omega⟩
    have HN := Held.mk (lost_any k A m c l.length l ok w hm hb h (Nat.le_refl _) (fun j hj => hf _ (List.getElem_mem hj)) (fun h => absurd h (Nat.lt_irrefl _)))
    rw [if_neg (Nat.lt_irrefl _)] at HN
    have h0' : ¬ (k : Int) < 0 := by omega
    have h1' : ¬ 4096 < (k : Int) := by omega
    have HRg := Held.mk (fun W (hW : Keep (fun _ => False) w W) => rgroups_any k A m c (l.map nat) ok W (by omega) (by simpa using hm) hb ((rd_nat h hf).keep hW (fun _ _ h => h)) (by simpa using nat_lt hf))
    clear h hf hm hok
    go_enter Tryd.func8, Tryd.ntmps8
    go_wp2_with fail
    refine (rsize_ok k w (by omega) (by omega)).mono ?_
    rintro e w0 ⟨rfl, rfl⟩
    go_wp2_with fail
    refine HN.out.mono ?_
    rintro e w1 ⟨rfl, hb1⟩
    go_wp2_with fail
    refine (HRg.out _ (Keep.of_below hb1 _)).mono ?_
    rintro e w2 ⟨v, rfl, ho2, hb2⟩
    go_wp2_with fail
    go_ret3
    refine ⟨v, rfl, ?_, hb1.trans (hb2.mono hb1.size)⟩
    rw [Ord.row_len]
    exact own_rebase ho2 (fun j e => Nat.le_trans hb1.size (own_ge ho2 j e))
set_option maxHeartbeats 4000000 in
set_option maxRecDepth 100000 in
theorem told_any (n : Int) (l : List Two) (G : List Nat) (E : Value) (no at_ : Int) (w : World) (hans : Ans n l G E no at_) (hg : Laid w) :
    Calls Tryd.prog 11 #[E, .int .i64 no, .int .i64 0, .int .i64 at_] w fun e w' => e = .returned (.bool true) ∧ Below w.heap.size w w' := by
  cases hans with
  | neg hn =>
    have HP := Held.mk (plain_err 87 (.agg #[.int .i64 1]) 1 1 w (isErr_wrong 1) (by decide) (by decide) hg)
    clear hg
    unfold wrong
    go_enter Tryd.func11, Tryd.ntmps11
    go_wp2_with fail
    refine HP.out.mono ?_
    rintro e w1 ⟨rfl, hb1⟩
    go_wp2_with fail
    go_ret
    exact ⟨rfl, hb1⟩
  | many hn =>
    have HP := Held.mk (plain_err 87 (.agg #[.int .i64 5]) 5 5 w (isErr_wrong 5) (by decide) (by decide) hg)
    clear hg
    unfold wrong
    go_enter Tryd.func11, Tryd.ntmps11
    go_wp2_with fail
    refine HP.out.mono ?_
    rintro e w1 ⟨rfl, hb1⟩
    go_wp2_with fail
    go_ret
    exact ⟨rfl, hb1⟩
  | lost i hi h0 h1 hgo hbad =>
    have HP := Held.mk (At_fault 10 0 i w (by decide) (by decide) hg)
    clear hg hgo hbad
    unfold fault at HP ⊢
    go_enter Tryd.func11, Tryd.ntmps11
    go_wp2_with fail
    refine HP.out.mono ?_
    rintro e w1 ⟨rfl, hb1⟩
    go_wp2_with fail
    go_ret
    exact ⟨rfl, hb1⟩
  | fine h0 h1 hf =>
    have HP := Held.mk (plain_nil 0 w)
    clear hf
    go_enter Tryd.func11, Tryd.ntmps11
    go_wp2_with fail
    refine HP.out.mono ?_
    rintro e w1 ⟨rfl, hb1⟩
    go_wp2_with fail
    go_ret
    exact ⟨rfl, hb1⟩
end Grp
end Go.Proofs.YtgmanmbicoofgaaDoor
