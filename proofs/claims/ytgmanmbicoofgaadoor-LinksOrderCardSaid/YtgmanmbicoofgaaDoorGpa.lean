/- What Groups answers, each case; the program's and the document's, walked; told. -/
import Derived.Test.YtgmanmbicoofgaaDoorRgp
import Derived.Test.YtgmanmbicoofgaaDoorErG
namespace Go.Proofs.YtgmanmbicoofgaaDoor
set_option linter.unusedVariables false
set_option linter.unusedSimpArgs false
namespace Grp
open Go.RowKit Mem Err
abbrev Two := Ord.Two
abbrev RdT := Ord.RdT
/-- A pair that names things. -/
def Nms (n : Int) (p : Two) : Prop := 0 ≤ p.a ∧ p.a < n ∧ 0 ≤ p.b ∧ p.b < n
def nat (p : Two) : Nat × Nat := (p.a.toNat, p.b.toNat)
theorem first_or {α : Type} (P : α → Prop) : ∀ l : List α, (∀ p ∈ l, P p) ∨ ∃ i, ∃ h : i < l.length, (∀ j, (hj : j < i) → P (l[j]'(Nat.lt_trans hj h))) ∧ ¬ P l[i]
  | [] => .inl (by simp)
  | x :: l => by
    by_cases hx : P x
    · rcases first_or P l with h | ⟨i, h, h1, h2⟩
      · exact .inl (fun p hp => by
          rcases List.mem_cons.1 hp with rfl | hp
          · exact hx
          · exact h p hp)
      · refine .inr ⟨i + 1, by simpa using h, fun j hj => ?_, by simpa using h2⟩
        cases j with
        | zero => exact hx
        | succ j => exact h1 j (by omega)
    · exact .inr ⟨0, by simp, fun j hj => absurd hj (Nat.not_lt_zero _), hx⟩
/-- The answer: the leasts, the error, its number, its place. -/
inductive Ans (n : Int) (l : List Two) : List Nat → Value → Int → Int → Prop
  | neg : n < 0 → Ans n l [] (wrong 1) 1 0
  | many : 4096 < n → Ans n l [] (wrong 5) 5 0
  | lost (i : Nat) (h : i < l.length) : 0 ≤ n → n ≤ 4096 → (∀ j, (hj : j < i) → Nms n (l[j]'(Nat.lt_trans hj h))) → ¬ Nms n l[i] → Ans n l [] (fault 10 0 i) 10 i
  | fine : 0 ≤ n → n ≤ 4096 → (∀ p ∈ l, Nms n p) → Ans n l (Ord.row n.toNat (leasts (l.map nat) id)) .nilIface 0 0
theorem Ans.some (n : Int) (l : List Two) : ∃ G E no at_, Ans n l G E no at_ := by
  by_cases h1 : n < 0
  · exact ⟨_, _, _, _, .neg h1⟩
  · by_cases h2 : 4096 < n
    · exact ⟨_, _, _, _, .many h2⟩
    · rcases first_or (Nms n) l with h | ⟨i, h, h3, h4⟩
      · exact ⟨_, _, _, _, .fine (by omega) (by omega) h⟩
      · exact ⟨_, _, _, _, .lost i h (by omega) (by omega) h3 h4⟩
theorem rd_nat {w : World} {ok : Nat → Prop} {A : Option Addr} {n : Int} {l : List Two} (h : RdT w ok A l) (hl : ∀ p ∈ l, Nms n p) : RdP w ok A (l.map nat) := by
  have e : (l.map nat).flatMap two = l.flatMap Ord.Two.cells := by
    clear h
    induction l with
    | nil => rfl
    | cons p l ih =>
      have hp := hl p (List.mem_cons_self)
      rw [List.map_cons, List.flatMap_cons, List.flatMap_cons, ih (fun q hq => hl q (List.mem_cons_of_mem _ hq))]
      congr 1
      unfold Nms at hp
      simp only [two, nat, Ord.Two.cells]
      rw [Int.toNat_of_nonneg hp.1, Int.toNat_of_nonneg hp.2.2.1]
  unfold RdP
  rw [e, List.length_map]
  exact h
theorem nat_lt {n : Int} {l : List Two} (hl : ∀ p ∈ l, Nms n p) : ∀ p ∈ l.map nat, p.1 < n.toNat ∧ p.2 < n.toNat := by
  intro p hp
  obtain ⟨q, hq, rfl⟩ := List.mem_map.1 hp
  have := hl q hq
  unfold Nms at this
  simp only [nat]
  omega
theorem sized_neg (n : Int) (w : World) (hn : n < 0) : Calls Tryd.prog 42 #[.int .i64 n] w fun e w' => e = .returned (wrong 1) ∧ w' = w := by
  unfold wrong
  go_enter Tryd.func42, Tryd.ntmps42
  go_wp2
  go_ret
  exact ⟨rfl, rfl⟩
theorem sized_many (n : Int) (w : World) (hn : 4096 < n) : Calls Tryd.prog 42 #[.int .i64 n] w fun e w' => e = .returned (wrong 5) ∧ w' = w := by
  unfold wrong
  have h1 : ¬ n < 0 := by omega
  go_enter Tryd.func42, Tryd.ntmps42
  go_wp2
  go_ret
  exact ⟨rfl, rfl⟩
set_option maxHeartbeats 4000000 in
set_option maxRecDepth 100000 in
theorem named_lost (n : Int) (A : Option Addr) (m c i0 : Nat) (l : List Two) (ok : Nat → Prop) (w : World) (hm : m = l.length) (hb : m ≤ 8796093022208) (h : RdT w ok A l) (hi : i0 < l.length) (hgo : ∀ j, (hj : j < i0) → Nms n (l[j]'(Nat.lt_trans hj hi))) (hbad : ¬ Nms n l[i0]) :
    Calls Tryd.prog 43 #[.int .i64 n, .slice A m c] w fun e w' => e = .returned (fault 10 0 i0) ∧ Below w.heap.size w w' := by
  have HA := Held.mk h
  have HG := Held.mk hgo
  have HBd := Held.mk hbad
  have him : i0 < m := by omega
  have HM := Held.mk hm
  clear h hgo hbad hm
  unfold fault
  go_enter Tryd.func43, Tryd.ntmps43
  go_wp2
  go_loopw [9] (fun i wr => ∃ k : Nat, i = .int .i64 k ∧ k ≤ i0 ∧ Held (Below w.heap.size w wr)) (fun i _ => i0 - (intOf i).toNat)
  case atStart => exact ⟨0, rfl, Nat.zero_le _, ⟨Below.refl _ _⟩⟩
  case round =>
    obtain ⟨k, rfl, hk, HB⟩ := hrel
    have hkm : k < m := by omega
    have hkp : k < l.length := by have := HM.out; omega
    obtain ⟨ad, rfl, hak, c0, c1⟩ := (show RdT wr ok A l from RdV.keep HA.out (Keep.of_below HB.out (fun _ => False)) (fun _ _ h => h)).at_ hkp
    by_cases hlt : k < i0
    · have hpk := HG.out k hlt
      unfold Nms at hpk
      generalize l[k].a = a at *
      generalize l[k].b = b at *
      obtain ⟨h0, h2, h1, h3⟩ := hpk
      have h0' : ¬ a < 0 := by omega
      have h1' : ¬ b < 0 := by omega
      have h2' : ¬ n ≤ a := by omega
      have h3' : ¬ n ≤ b := by omega
      have HBn : Held (Below w.heap.size w (wr.alloc (.cells #[.int .i64 a, .int .i64 b] 73))) := ⟨HB.out.alloc HB.out.size _⟩
      rcases Int.lt_trichotomy a b with hab | hab | hab
      · have hab' : ¬ b < a := by omega
        go_wp2
        go_roundw
        case rel => exact ⟨k + 1, by go_num, by omega, HBn⟩
        case measure => simp [intOf]; omega
      · subst hab
        go_wp2
        go_roundw
        case rel => exact ⟨k + 1, by go_num, by omega, HBn⟩
        case measure => simp [intOf]; omega
      · have hab' : ¬ a < b := by omega
        go_wp2
        go_roundw
        case rel => exact ⟨k + 1, by go_num, by omega, HBn⟩
        case measure => simp [intOf]; omega
    · obtain rfl : k = i0 := by omega
      have hpk := HBd.out
      unfold Nms at hpk
      generalize l[k].a = a at *
      generalize l[k].b = b at *
      have HBn : Held (Below w.heap.size w (wr.alloc (.cells #[.int .i64 a, .int .i64 b] 73))) := ⟨HB.out.alloc HB.out.size _⟩
      have hcs : a < 0 ∨ (¬ a < 0 ∧ b < 0) ∨ (¬ a < 0 ∧ ¬ b < 0 ∧ n ≤ a) ∨ (¬ a < 0 ∧ ¬ b < 0 ∧ n ≤ b) := by omega
      have hq : (a < b ∧ ¬ b < a ∧ a < 0) ∨ (a < b ∧ ¬ b < a ∧ ¬ a < 0 ∧ n ≤ b) ∨ (a = b ∧ a < 0) ∨ (a = b ∧ ¬ a < 0 ∧ n ≤ a) ∨ (b < a ∧ ¬ a < b ∧ b < 0) ∨ (b < a ∧ ¬ a < b ∧ ¬ b < 0 ∧ n ≤ a) := by omega
      clear hcs hpk
      rcases hq with ⟨q1, q2, q3⟩ | ⟨q1, q2, q3, q4⟩ | ⟨rfl, q3⟩ | ⟨rfl, q3, q4⟩ | ⟨q1, q2, q3⟩ | ⟨q1, q2, q3, q4⟩
      all_goals
        go_wp2
        go_ret
        exact ⟨rfl, HBn.out⟩
set_option maxHeartbeats 4000000 in
set_option maxRecDepth 100000 in
theorem Groups_any (n : Int) (A : Option Addr) (m c : Nat) (l : List Two) (ok : Nat → Prop) (w : World) (G : List Nat) (E : Value) (no at_ : Int) (hans : Ans n l G E no at_) (hm : m = l.length) (hb : m ≤ 8796093022208) (h : RdT w ok A l) (hok : ∀ k, ok k → k < w.heap.size) :
    Calls Tryd.prog 10 #[.int .i64 n, .slice A m c] w fun e w' => ∃ v, e = .returned (.tuple #[v, E]) ∧ w'.ownsRow w.heap.size 3 1 v G.length (ints G) ∧ Below w.heap.size w w' := by
  cases hans with
  | neg hn =>
    have HS := Held.mk (sized_neg n w hn)
    clear hn
    unfold wrong at HS ⊢
    go_enter Tryd.func10, Tryd.ntmps10
    go_wp2_with fail
    refine HS.out.mono ?_
    rintro e w1 ⟨rfl, rfl⟩
    go_wp2_with fail
    go_ret2
    exact ⟨_, rfl, own_nil _ _ _ _, Below.refl _ _⟩
  | many hn =>
    have HS := Held.mk (sized_many n w hn)
    clear hn
    unfold wrong at HS ⊢
    go_enter Tryd.func10, Tryd.ntmps10
    go_wp2_with fail
    refine HS.out.mono ?_
    rintro e w1 ⟨rfl, rfl⟩
    go_wp2_with fail
    go_ret2
    exact ⟨_, rfl, own_nil _ _ _ _, Below.refl _ _⟩
  | lost i hi h0 h1 hgo hbad =>
    obtain ⟨k, rfl⟩ : ∃ k : Nat, n = k := ⟨n.toNat, by omega⟩
    have HS := Held.mk (sized_ok k w (by omega))
    have HN := Held.mk (named_lost k A m c i l ok w hm hb h hi hgo hbad)
    clear h hgo hbad hm hok
    unfold fault at HN ⊢
    go_enter Tryd.func10, Tryd.ntmps10
    go_wp2_with fail
    refine HS.out.mono ?_
    rintro e w1 ⟨rfl, rfl⟩
    go_wp2_with fail
    refine HN.out.mono ?_
    rintro e w2 ⟨rfl, hb2⟩
    have HB2 := Held.mk hb2
    clear hb2
    go_wp2_with fail
    go_ret2
    exact ⟨_, rfl, own_nil _ _ _ _, HB2.out⟩
  | fine h0 h1 hf =>
    obtain ⟨k, rfl⟩ : ∃ k : Nat, n = k := ⟨n.toNat, by omega⟩
    refine (groups_ok k A m c (l.map nat) ok w (by omega) (by simpa using hm) (by omega) (rd_nat h hf) hok (by simpa using nat_lt hf)).mono ?_
    rintro e w' ⟨C, rfl, ho, hb⟩
    refine ⟨_, rfl, ?_, hb⟩
    rw [Ord.row_len]
    exact ho
end Grp
end Go.Proofs.YtgmanmbicoofgaaDoor
