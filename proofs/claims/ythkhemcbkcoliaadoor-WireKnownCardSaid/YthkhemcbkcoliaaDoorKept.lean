import Derived.Test.YthkhemcbkcoliaaDoorMem
import Derived.Test.YthkhemcbkcoliaaDoorProg
import Derived.Outline
import Derived.Deep.QuietTactic
import Derived.BigQuiet
namespace Go.Proofs.YthkhemcbkcoliaaDoor
set_option linter.unusedVariables false
namespace Kit
open Go.RowKit Mem
theorem info_u8 : (Tryd.prog.info? 5).map (fun i => (i.zero, i.size, i.bytes)) = some (some (.int .u8 0), 1, 1) := by kernel_rfl
theorem below_drewN {B : Nat} {a w : World} (h : Below B a w) (n : Nat) : Below B a (w.drewN n) := ⟨h.os, h.tape, h.output, h.size, h.block⟩
theorem info_size : (Tryd.prog.info? 5).map (fun i => i.size) = some 1 := by kernel_rfl

set_option maxHeartbeats 1000000 in
set_option maxRecDepth 100000 in
theorem same_any (ok ok' : Nat → Prop) (A A' : Option Addr) (n n' c c' : Nat) (xs ys : List Int) (w : World) (hr : RdN w ok .u8 A n xs) (hr' : RdN w ok' .u8 A' n' ys) (hl : n ≤ 9223372036854775807) (hl' : n' ≤ 9223372036854775807) :
    Calls Tryd.prog 12 #[.slice A n c, .slice A' n' c'] w fun e w' => e = .returned (.bool (decide (xs = ys))) ∧ ∃ m, w' = w.drewN m := by
  have h1 := Held.mk hr.len
  have h2 := Held.mk hr'.len
  have Hr := Held.mk hr
  have Hr' := Held.mk hr'
  clear hr hr'
  by_cases hn : n = n'
  · subst hn
    have h0 : ((n : Int) != n) = false := by simp
    go_enter Tryd.func12, Tryd.ntmps12
    go_wp2
    go_loopw [5] (fun i wr => ∃ k m : Nat, i = .int .i64 k ∧ k ≤ n ∧ Held (xs.take k = ys.take k) ∧ wr = w.drewN m) (fun i _ => n - (intOf i).toNat)
    case atStart => exact ⟨0, 0, rfl, Nat.zero_le _, ⟨rfl⟩, rfl⟩
    case round =>
      obtain ⟨k, m, rfl, hk, he, rfl⟩ := hrel
      by_cases hlt : k < n
      · obtain ⟨a1, rfl, hc1⟩ := Hr.out.at_ hlt
        obtain ⟨a2, rfl, hc2⟩ := Hr'.out.at_ hlt
        have hk1 : (k : Int) < n := by omega
        have ex : xs.take (k + 1) = xs.take k ++ [xs.getD k 0] := by
          rw [List.take_succ_eq_append_getElem (by rw [h1.out]; exact hlt), List.getD_eq_getElem?_getD, List.getElem?_eq_getElem (by rw [h1.out]; exact hlt)]; rfl
        have ey : ys.take (k + 1) = ys.take k ++ [ys.getD k 0] := by
          rw [List.take_succ_eq_append_getElem (by rw [h2.out]; exact hlt), List.getD_eq_getElem?_getD, List.getElem?_eq_getElem (by rw [h2.out]; exact hlt)]; rfl
        generalize xs.getD k 0 = a at *
        generalize ys.getD k 0 = b at *
        have Ex := Held.mk ex
        have Ey := Held.mk ey
        clear ex ey
        by_cases hab : a = b
        · subst hab
          have hne : (a != a) = false := by simp
          go_wp2
          go_quiet (fail)
          go_wp2
          go_roundw
          case rel => exact ⟨k + 1, _, by go_num, by omega, ⟨by rw [Ex.out, Ey.out, he.out]⟩, rfl⟩
          case measure => simp [intOf]; omega
        · have hne : (a != b) = true := by simpa using hab
          have hfin : Held (decide (xs = ys) = false) := ⟨by
            simp only [decide_eq_false_iff_not]
            intro e
            have := Ex.out.symm.trans ((congrArg (·.take (k + 1)) e).trans Ey.out)
            simp at this
            exact hab this.2⟩
          go_wp2
          go_quiet (fail)
          go_wp2
          go_ret
          rw [hfin.out]
          exact ⟨rfl, _, World.drewN_drewN ..⟩
      · go_wp2
        go_ret
        have : xs = ys := by
          have := he.out
          rwa [List.take_of_length_le (by rw [h1.out]; omega), List.take_of_length_le (by rw [h2.out]; omega)] at this
        rw [this]
        exact ⟨by simp, _, rfl⟩
  · have h0 : ((n : Int) != n') = true := by rw [bne_iff_ne]; omega
    have hfin : Held (decide (xs = ys) = false) := ⟨by
      simp only [decide_eq_false_iff_not]
      intro e
      exact hn (by rw [← h1.out, ← h2.out, e])⟩
    go_enter Tryd.func12, Tryd.ntmps12
    go_wp2
    go_ret
    rw [hfin.out]
    exact ⟨rfl, 0, rfl⟩

def mark (k : Nat) (i : Int) : Int := (37 * ((k : Int) + 1) + i) % 256
theorem mark_any (k : Nat) (i : Int) (w : World) (hk : k ≤ 1000000) (h0 : -1000000000000000 ≤ i) (h1 : i ≤ 1000000000000000) :
    Calls Tryd.prog 54 #[.int .i64 k, .int .i64 i] w fun e w' => e = .returned (.int .u8 (mark k i)) ∧ w = w' := by
  go_enter Tryd.func54, Tryd.ntmps54
  go_wp2
  go_ret
  exact ⟨rfl, rfl⟩
def marks (n : Nat) : List Int := (List.range n).map fun (i : Nat) => mark 90 i
theorem marks_succ (n : Nat) : marks (n + 1) = marks n ++ [mark 90 n] := by simp [marks, List.range_succ]
theorem marks_length (n : Nat) : (marks n).length = n := by simp [marks]

set_option maxHeartbeats 1000000 in
set_option maxRecDepth 100000 in
theorem full_any (ok : Nat → Prop) (A : Option Addr) (n c : Nat) (xs : List Int) (w : World) (hr : RdN w ok .u8 A n xs) (hl : n ≤ 140737488355300) :
    Calls Tryd.prog 44 #[.slice A n c] w fun e w' => ∃ v, e = .returned v ∧ OwnN w' w.heap.size 5 .u8 v (xs ++ marks 16) ∧ Below w.heap.size w w' := by
  have h1 := Held.mk hr.len
  have Hr := Held.mk (hr.lt (by decide))
  clear hr
  go_enter Tryd.func44, Tryd.ntmps44
  go_wp2
  go_loopw [3, 4] (fun v i wr => ∃ k : Nat, i = .int .i64 k ∧ k ≤ n ∧ OwnN wr w.heap.size 5 .u8 v (xs.take k) ∧ Below w.heap.size w wr) (fun _ i _ => n - (intOf i).toNat)
  case atStart => exact ⟨0, rfl, Nat.zero_le _, own_nil _ _ _ _, Below.refl _ _⟩
  case round =>
    obtain ⟨k, rfl, hk, hown, hb⟩ := hrel
    by_cases hlt : k < n
    · have hr' := Hr.out.keep (Keep.of_below hb (fun k => ¬ k < w.heap.size)) (fun k hk => by simp; exact hk.2)
      obtain ⟨ad, rfl, hc⟩ := RdN.at_ hr' hlt
      have ex : xs.take (k + 1) = xs.take k ++ [xs.getD k 0] := by
        rw [List.take_succ_eq_append_getElem (by rw [h1.out]; exact hlt), List.getD_eq_getElem?_getD, List.getElem?_eq_getElem (by rw [h1.out]; exact hlt)]; rfl
      have hlk : (xs.take k).length ≤ k := List.length_take_le _ _
      generalize xs.take k = ys at *
      generalize xs.getD k 0 = a at *
      have Ex := Held.mk ex
      have Hs := Held.mk hb.size
      have HO := Held.mk hown
      clear ex hr' hown
      go_wp2_with (at_builtin; refine app1N w.heap.size rfl (.tmp 12) (.tmp 17) 23 5 .u8 1 rfl Tryd.underlying23 info_u8 (by decide) u3 ys _ rfl rfl HO.out ?c1 ?c2 ?_; (case c1 => exact Hs.out); (case c2 => omega); intro v1 w1 ho1 hg1 hat1)
      go_roundw
      case rel => exact ⟨k + 1, by go_num, by omega, by rw [Ex.out]; exact ho1, hb.grown hg1 hb.size (own_ge HO.out)⟩
      case measure => simp [intOf]; omega
    · have ek : xs.take k = xs := List.take_of_length_le (by rw [h1.out]; omega)
      rw [ek] at hown
      have HO := Held.mk hown
      have HB := Held.mk hb
      clear ek hown hb
      go_wp2
      go_loopw [3, 5] (fun v i w2 => ∃ k : Nat, i = .int .i64 k ∧ k ≤ 16 ∧ OwnN w2 w.heap.size 5 .u8 v (xs ++ marks k) ∧ Below w.heap.size w w2) (fun _ i _ => 16 - (intOf i).toNat)
      case atStart => exact ⟨0, rfl, by omega, by simpa [marks] using HO.out, HB.out⟩
      case round =>
        obtain ⟨j, rfl, hj, hown, hb⟩ := hrel
        have hlj : (xs ++ marks j).length = n + j := by rw [List.length_append, marks_length, h1.out]
        have Hlj := Held.mk hlj
        have Hs := Held.mk hb.size
        have HO := Held.mk hown
        clear hown hlj
        by_cases hlt : j < 16
        · go_wp2_with (first | (go_at_call 54; refine (mark_any 90 _ _ (by omega) (by omega) (by omega)).mono ?_; rintro e w' ⟨rfl, rfl⟩) | (at_builtin; refine app1N w.heap.size rfl (.tmp 23) (.tmp 26) 23 5 .u8 1 rfl Tryd.underlying23 info_u8 (by decide) u3 _ _ rfl rfl HO.out ?c1 ?c2 ?_; (case c1 => exact Hs.out); (case c2 => have := Hlj.out; omega); intro v1 w1 ho1 hg1 hat1))
          go_roundw
          case rel => exact ⟨j + 1, by go_num, by omega, by rw [marks_succ, ← List.append_assoc]; exact ho1, hb.grown hg1 hb.size (own_ge HO.out)⟩
          case measure => simp [intOf]; omega
        · obtain rfl : j = 16 := by omega
          go_wp2
          go_ret
          exact ⟨_, rfl, HO.out, hb⟩

set_option maxHeartbeats 1000000 in
set_option maxRecDepth 100000 in
theorem keptFull_any (ok ok' : Nat → Prop) (A A' : Option Addr) (n c c' m : Nat) (xs : List Int) (w : World) (hm : m = n + 16) (hr : RdN w ok .u8 A m (xs ++ marks 16)) (hr' : RdN w ok' .u8 A' n xs) (hl : n ≤ 140737488355328) :
    Calls Tryd.prog 45 #[.slice A m c, .slice A' n c'] w fun e w' => e = .returned (.bool true) ∧ ∃ m, w' = w.drewN m := by
  have h1 := Held.mk hr'.len
  have Hm := Held.mk hm
  have hm1 : m ≤ n + 16 := by omega
  have hm2 : n + 16 ≤ m := by omega
  have h0 : ((m : Int) != n + 16) = false := by simp; omega
  clear hm
  have Hr := Held.mk hr
  have Hr' := Held.mk hr'
  clear hr hr'
  go_enter Tryd.func45, Tryd.ntmps45
  go_wp2
  go_loopw [5] (fun i wr => ∃ k d : Nat, i = .int .i64 k ∧ k ≤ m ∧ wr = w.drewN d) (fun i _ => m - (intOf i).toNat)
  case atStart => exact ⟨0, 0, rfl, Nat.zero_le _, rfl⟩
  case round =>
    obtain ⟨k, d, rfl, hk, rfl⟩ := hrel
    by_cases hlt : k < m
    · obtain ⟨a1, rfl, hc1⟩ := Hr.out.at_ hlt
      have hk1 : (k : Int) < m := by omega
      by_cases hkn : k < n
      · obtain ⟨a2, rfl, hc2⟩ := Hr'.out.at_ hkn
        have hk2 : (k : Int) < n := by omega
        have e : (xs ++ marks 16).getD k 0 = xs.getD k 0 := by
          rw [List.getD_eq_getElem?_getD, List.getD_eq_getElem?_getD, List.getElem?_append_left (by rw [h1.out]; exact hkn)]
        rw [e] at hc1
        clear e
        generalize xs.getD k 0 = a at *
        have hne : (a != a) = false := by simp
        go_wp2_with (go_at_call 54; refine (mark_any 90 _ _ (by omega) (by omega) (by omega)).mono ?_; rintro e w' ⟨rfl, rfl⟩)
        go_roundw
        case rel => exact ⟨k + 1, _, by go_num, by omega, rfl⟩
        case measure => simp [intOf]; omega
      · have hk2 : (n : Int) ≤ k := by omega
        have e : (xs ++ marks 16).getD k 0 = mark 90 ((k : Int) - n) := by
          rw [List.getD_eq_getElem?_getD, List.getElem?_append_right (by rw [h1.out]; omega), h1.out]
          have : k - n < 16 := by omega
          simp only [marks, List.getElem?_map, List.getElem?_range this, Option.map_some, Option.getD_some]
          congr 1
          omega
        rw [e] at hc1
        clear e
        have hne : (mark 90 ((k : Int) - n) != mark 90 ((k : Int) - n)) = false := by simp
        go_wp2_with (go_at_call 54; refine (mark_any 90 _ _ (by omega) (by omega) (by omega)).mono ?_; rintro e w' ⟨rfl, rfl⟩)
        go_roundw
        case rel => exact ⟨k + 1, _, by go_num, by omega, rfl⟩
        case measure => simp [intOf]; omega
    · go_wp2
      go_ret
      exact ⟨rfl, _, rfl⟩

/-- A list that is lent: its numbers and sixteen marks behind them, in a block of its own. -/
structure Lent (w : World) (base g n c : Nat) (xs : List Int) : Prop where
  own : OwnN w base 5 .u8 (.slice (some ⟨g, 0, none⟩) (n + 16) c) (xs ++ marks 16)
  len : xs.length = n
  ge : base ≤ g
theorem Lent.cap {w : World} {base g n c : Nat} {xs : List Int} (h : Lent w base g n c xs) : n + 16 ≤ c := by
  obtain ⟨_, h2 | ⟨g', cap, cur, e, _, _, hc, _⟩⟩ := h.own
  · cases h2.1
  · injection e with _ e1 e2; omega
theorem Lent.rd {w : World} {base g n c : Nat} {xs : List Int} (h : Lent w base g n c xs) : RdN w (fun k => k = g) .u8 (some ⟨g, 0, none⟩) n xs := by
  obtain ⟨A, c', e, _, hr⟩ := RdN.of_own h.own
  injection e with e1 e2 e3
  subst e1
  have hl : (xs ++ marks 16).length = n + 16 := by rw [List.length_append, marks_length, h.len]
  rw [hl] at hr
  have h2 := hr.sub (lo := 0) (up := n) (Nat.zero_le _) (by omega)
  have e4 : ((⟨g, 0, none⟩ : Addr).add 0) = ⟨g, 0, none⟩ := rfl
  rw [e4, List.drop_zero, Nat.sub_zero, List.take_append_of_le_length (by rw [h.len]; exact Nat.le_refl _), List.take_of_length_le (by rw [h.len]; exact Nat.le_refl _)] at h2
  exact h2.mono (fun k hk => by simpa [Value.ownBlock] using hk.symm)
theorem Lent.full {w : World} {base g n c : Nat} {xs : List Int} (h : Lent w base g n c xs) : RdN w (fun k => k = g) .u8 (some ⟨g, 0, none⟩) (n + 16) (xs ++ marks 16) := by
  obtain ⟨A, c', e, _, hr⟩ := RdN.of_own h.own
  injection e with e1 e2 e3
  subst e1
  rw [← e2] at hr
  exact hr.mono (fun k hk => by simpa [Value.ownBlock] using hk.symm)
theorem Lent.keep {w w' : World} {base g n c : Nat} {xs : List Int} {S : Nat → Prop} (h : Lent w base g n c xs) (hk : Keep S w w') (hs : ¬ S g) : Lent w' base g n c xs :=
  ⟨hk.own h.own (fun k hk' e => by simp [Value.ownBlock] at hk'; exact hs (hk' ▸ e)), h.len, h.ge⟩

theorem Lent.cell {w : World} {base g n c : Nat} {xs : List Int} (h : Lent w base g n c xs) {i : Nat} (hi : i < n) : w.cell? ⟨g, i, none⟩ = some (.int .u8 (xs.getD i 0)) ∧ w.frozen? ⟨g, i, none⟩ = false := by
  have hl : (xs ++ marks 16).length = n + 16 := by rw [List.length_append, marks_length, h.len]
  have ho := h.own
  unfold OwnN at ho
  rw [hl] at ho
  obtain ⟨ad, e, hc⟩ := h.rd.at_ hi
  injection e with e
  subst e
  have : ((⟨g, 0, none⟩ : Addr).add i) = ⟨g, i, none⟩ := by unfold Addr.add; split <;> simp_all
  rw [this] at hc
  exact ⟨hc, own_frozen ho i⟩
/-- A store into a list that is lent. -/
theorem Lent.set_ {w : World} {base g n c : Nat} {xs : List Int} (h : Lent w base g n c xs) {i : Nat} (hi : i < n) (y : Int) : Lent (w.setCell ⟨g, i, none⟩ (.int .u8 y)) base g n c (xs.set i y) := by
  have hl : (xs ++ marks 16).length = n + 16 := by rw [List.length_append, marks_length, h.len]
  have ho := h.own
  unfold OwnN at ho
  rw [hl] at ho
  have h2 := own_set ho (show i < n + 16 by omega) (.int .u8 y)
  refine ⟨?_, by simpa using h.len, h.ge⟩
  have e : nums .u8 (xs.set i y ++ marks 16) = (nums .u8 (xs ++ marks 16)).set i (.int .u8 y) := by
    have : i < xs.length := by rw [h.len]; exact hi
    unfold nums
    rw [← List.set_append_left _ _ this, List.map_set]
  unfold OwnN
  rw [e, show (xs.set i y ++ marks 16).length = n + 16 from by simp [marks_length, h.len]]
  exact h2
set_option maxHeartbeats 1000000 in
set_option maxRecDepth 100000 in
theorem lent_any (ok : Nat → Prop) (A : Option Addr) (n c : Nat) (xs : List Int) (w : World) (hr : RdN w ok .u8 A n xs) (hl : n ≤ 140737488355300) :
    Calls Tryd.prog 15 #[.slice A n c] w fun e w' => ∃ g c', e = .returned (.slice (some ⟨g, 0, none⟩) n c') ∧ Lent w' w.heap.size g n c' xs ∧ Below w.heap.size w w' := by
  have h1 := Held.mk hr.len
  have Hr := Held.mk hr
  clear hr
  go_enter Tryd.func15, Tryd.ntmps15
  go_wp2_with fail
  refine (full_any ok A n c xs w Hr.out hl).mono ?_
  rintro e w1 ⟨v, rfl, ho, hb⟩
  have hl1 : (xs ++ marks 16).length = n + 16 := by rw [List.length_append, marks_length, h1.out]
  obtain ⟨g, cap, rfl, hg, _⟩ := World.ownsRow.form (h := ho) (by rw [hl1]; omega)
  have hcap : n + 16 ≤ cap := by
    obtain ⟨_, h2 | ⟨g', cap', cur, e, _, _, hc, _⟩⟩ := ho
    · cases h2.1
    · injection e with _ e1 e2; omega
  rw [hl1] at ho ⊢
  have Ho := Held.mk ho
  clear ho hl1
  go_wp2
  go_ret
  exact ⟨g, cap, rfl, ⟨Ho.out, h1.out, hg⟩, hb⟩

set_option maxHeartbeats 1000000 in
set_option maxRecDepth 100000 in
theorem kept_any (ok' : Nat → Prop) (A' : Option Addr) (base g n c c' : Nat) (xs : List Int) (w : World) (hL : Lent w base g n c xs) (hr' : RdN w ok' .u8 A' n xs) (hl : n ≤ 140737488355300) :
    Calls Tryd.prog 17 #[.slice (some ⟨g, 0, none⟩) n c, .slice A' n c'] w fun e w' => e = .returned (.bool true) ∧ ∃ m, w' = w.drewN m := by
  have hcap := hL.cap
  have HL := Held.mk hL
  have Hr' := Held.mk hr'
  clear hL hr'
  have h0 : ((n : Int) != n) = false := by simp
  go_enter Tryd.func17, Tryd.ntmps17
  go_wp2_with fail
  refine (keptFull_any _ ok' _ A' n c c' (n + 16) xs w rfl HL.out.full Hr'.out (by omega)).mono ?_
  rintro e w' ⟨rfl, m, rfl⟩
  go_wp2
  go_ret
  exact ⟨rfl, _, rfl⟩
end Kit
end Go.Proofs.YthkhemcbkcoliaaDoor
