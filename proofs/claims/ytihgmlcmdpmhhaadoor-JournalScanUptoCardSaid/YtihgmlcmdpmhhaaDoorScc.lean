/- Frames, one behind the other: plain; rows of rows of bytes in memory. -/
import Derived.Test.YtihgmlcmdpmhhaaDoorRdq
import Derived.Test.YtihgmlcmdpmhhaaDoorUfr
import Derived.Test.YtihgmlcmdpmhhaaDoorApb
import Derived.Test.YtihgmlcmdpmhhaaDoorDdr
namespace Go.Proofs.YtihgmlcmdpmhhaaDoor
set_option linter.unusedVariables false
set_option linter.unusedSimpArgs false
namespace Jrn
open Go.RowKit Mem Apn Wire
theorem unf_fits (b : List Int) (hb : Byt b) (x : Nat) (ps : List Int) (k : Nat) (h : unf b = (x, ps, k, .ok)) : 1 ≤ k ∧ k ≤ b.length ∧ ps.length ≤ 65536 ∧ Byt ps := by
  obtain ⟨sz, m, e1, he⟩ : ∃ sz m e, num b = (sz, m, e) := ⟨_, _, _, rfl⟩
  cases e1 with
  | no j => rw [unf_bad1 he (by simp)] at h; simp at h
  | ref s j => rw [unf_bad1 he (by simp)] at h; simp at h
  | ok =>
    by_cases hs : 65536 < sz
    · rw [unf_many he hs] at h; simp at h
    · obtain ⟨x2, k2, e2, h2⟩ : ∃ x k e, num (b.drop m) = (x, k, e) := ⟨_, _, _, rfl⟩
      cases e2 with
      | no j => rw [unf_bad2 he hs h2 (by simp)] at h; simp at h
      | ref s j => rw [unf_bad2 he hs h2 (by simp)] at h; simp at h
      | ok =>
        rw [unf_good he hs h2] at h
        split at h
        · simp at h
        · split at h
          · simp only [Prod.mk.injEq] at h
            obtain ⟨_, hp, hk, _⟩ := h
            refine ⟨by omega, by omega, ?_, ?_⟩
            · rw [← hp, List.length_take]; omega
            · rw [← hp]; exact fun c hc => hb c (List.mem_of_mem_drop (List.mem_of_mem_take hc))
          · simp at h
/-- How a scan ends. -/
inductive Jr where
  | w (e : Er)
  | num
/-- The records of bytes from record k on, how many bytes they are, and how it ends. -/
def scanR : Nat → Nat → List Int → List (List Int) × Nat × Jr
  | 0, _, _ => ([], 0, .w .ok)
  | f + 1, k, b =>
    if b.length = 0 then ([], 0, .w .ok)
    else match unf b with
      | (x, ps, n, .ok) => if x = k + 1 then (ps :: (scanR f (k + 1) (b.drop n)).1, n + (scanR f (k + 1) (b.drop n)).2.1, (scanR f (k + 1) (b.drop n)).2.2) else ([], 0, .num)
      | (_, _, _, e) => ([], 0, .w e)
theorem scanR_fuel : ∀ (f g k : Nat) (b : List Int), Byt b → b.length ≤ f → b.length ≤ g → scanR f k b = scanR g k b
  | 0, 0, _, _, _, _, _ => rfl
  | 0, g + 1, k, b, _, hf, _ => by unfold scanR; rw [if_pos (by omega)]
  | f + 1, 0, k, b, _, _, hg => by unfold scanR; rw [if_pos (by omega)]
  | f + 1, g + 1, k, b, hb, hf, hg => by
    unfold scanR
    by_cases h0 : b.length = 0
    · rw [if_pos h0, if_pos h0]
    · rw [if_neg h0, if_neg h0]
      obtain ⟨x, ps, n, e, hu⟩ : ∃ x ps n e, unf b = (x, ps, n, e) := ⟨_, _, _, _, rfl⟩
      rw [hu]
      cases e with
      | ok =>
        obtain ⟨h1, h2, _, _⟩ := unf_fits b hb x ps n hu
        have h3 := scanR_fuel f g (k + 1) (b.drop n) (fun c hc => hb c (List.mem_of_mem_drop hc)) (by rw [List.length_drop]; omega) (by rw [List.length_drop]; omega)
        simp only [h3]
      | no j => rfl
      | ref s j => rfl
/-- The scan of bytes. -/
def scan (b : List Int) : List (List Int) × Nat × Jr := scanR b.length 0 b
/-- The scan's rest: behind 'at' bytes and the records L. -/
def Sc (b : List Int) (L : List (List Int)) (at_ : Nat) : Prop :=
  at_ ≤ b.length ∧ L.length ≤ at_ ∧ scan b = (L ++ (scanR b.length L.length (b.drop at_)).1, at_ + (scanR b.length L.length (b.drop at_)).2.1, (scanR b.length L.length (b.drop at_)).2.2)
theorem Sc.start (b : List Int) : Sc b [] 0 := ⟨Nat.zero_le _, Nat.le_refl _, by simp [scan]⟩
theorem Sc.done {b : List Int} {L : List (List Int)} {at_ : Nat} (h : Sc b L at_) (hd : ¬ at_ < b.length) : scan b = (L, at_, .w .ok) := by
  obtain ⟨h1, _, h2⟩ := h
  have h3 : b.drop at_ = [] := List.drop_eq_nil_of_le (by omega)
  have h4 : ∀ f k, scanR f k [] = ([], 0, .w .ok) := fun f k => by cases f <;> simp [scanR]
  rw [h2, h3, h4]; simp
theorem scanR_succ {f k : Nat} {b : List Int} (h : 0 < b.length) (hf : b.length ≤ f) : ∃ g, f = g + 1 ∧ b.length ≤ g + 1 := ⟨f - 1, by omega, by omega⟩
theorem Sc.bad {b : List Int} {L : List (List Int)} {at_ x n : Nat} {ps : List Int} {e : Er} (h : Sc b L at_) (hd : at_ < b.length) (hu : unf (b.drop at_) = (x, ps, n, e)) (he : e ≠ .ok) : scan b = (L, at_, .w e) := by
  obtain ⟨h1, _, h2⟩ := h
  obtain ⟨g, hg⟩ : ∃ g, b.length = g + 1 := ⟨b.length - 1, by omega⟩
  have h3 : scanR b.length L.length (b.drop at_) = ([], 0, .w e) := by
    rw [hg]
    unfold scanR
    rw [if_neg (by rw [List.length_drop]; omega), hu]
    cases e with
    | ok => exact absurd rfl he
    | no j => rfl
    | ref s j => rfl
  rw [h2, h3]; simp
theorem Sc.num {b : List Int} {L : List (List Int)} {at_ x n : Nat} {ps : List Int} (h : Sc b L at_) (hd : at_ < b.length) (hu : unf (b.drop at_) = (x, ps, n, .ok)) (hx : x ≠ L.length + 1) : scan b = (L, at_, .num) := by
  obtain ⟨h1, _, h2⟩ := h
  obtain ⟨g, hg⟩ : ∃ g, b.length = g + 1 := ⟨b.length - 1, by omega⟩
  have h3 : scanR b.length L.length (b.drop at_) = ([], 0, .num) := by
    rw [hg]
    unfold scanR
    rw [if_neg (by rw [List.length_drop]; omega), hu]
    simp only [if_neg hx]
  rw [h2, h3]; simp
theorem Sc.next {b : List Int} {L : List (List Int)} {at_ n : Nat} {ps : List Int} (h : Sc b L at_) (hb : Byt b) (hd : at_ < b.length) (hu : unf (b.drop at_) = (L.length + 1, ps, n, .ok)) : Sc b (L ++ [ps]) (at_ + n) ∧ 1 ≤ n ∧ at_ + n ≤ b.length := by
  obtain ⟨h1, h0, h2⟩ := h
  have hbd : Byt (b.drop at_) := fun c hc => hb c (List.mem_of_mem_drop hc)
  obtain ⟨n1, n2, _, _⟩ := unf_fits _ hbd _ _ _ hu
  rw [List.length_drop] at n2
  obtain ⟨g, hg⟩ : ∃ g, b.length = g + 1 := ⟨b.length - 1, by omega⟩
  have h3 : scanR b.length L.length (b.drop at_) = (ps :: (scanR b.length (L.length + 1) (b.drop (at_ + n))).1, n + (scanR b.length (L.length + 1) (b.drop (at_ + n))).2.1, (scanR b.length (L.length + 1) (b.drop (at_ + n))).2.2) := by
    have h5 := scanR_fuel g b.length (L.length + 1) (b.drop (at_ + n)) (fun c hc => hb c (List.mem_of_mem_drop hc)) (by rw [List.length_drop]; omega) (by rw [List.length_drop]; omega)
    rw [← h5]
    conv => lhs; rw [hg]; unfold scanR
    rw [if_neg (by rw [List.length_drop]; omega), hu]
    simp only [if_true, List.drop_drop]
  refine ⟨⟨by omega, by simp; omega, ?_⟩, n1, by omega⟩
  rw [h2, h3]
  simp [Nat.add_assoc]
/-- A row of rows of bytes, each in blocks of its own. -/
structure Rows (w : World) (base : Nat) (v : Value) (xs : List (List Int)) : Prop where
  ex : ∃ V : Nat → Value, w.ownsW base 22 1 v xs.length ((List.range xs.length).map V) ∧ (∀ j (h : j < xs.length), OwnN w base 5 .u8 (V j) (xs[j]'h)) ∧ (∀ i j, i < j → j < xs.length → ∀ k, (V i).ownBlock = some k → (V j).ownBlock ≠ some k)
theorem Rows.nil (w : World) (base : Nat) : Rows w base (.slice none 0 0) [] := ⟨fun _ => .nilIface, own_nil w base _ _, fun j h => absurd h (by simp), fun i j _ h => absurd h (by simp)⟩
theorem Rows.keep {w w' : World} {base : Nat} {v : Value} {xs : List (List Int)} (h : Rows w base v xs) {S : Nat → Prop} (hk : Keep S w w') (hS : ∀ k, base ≤ k → k < w.heap.size → ¬ S k) : Rows w' base v xs := by
  obtain ⟨V, h1, h2, h3⟩ := h.ex
  exact ⟨V, hk.own h1 (fun k e => hS k (own_ge h1 k e) (own_lt h1 k e)), fun j hj => hk.own (h2 j hj) (fun k e => hS k (own_ge (h2 j hj) k e) (own_lt (h2 j hj) k e)), h3⟩
theorem Rows.rebase {w : World} {base base' : Nat} {v : Value} {xs : List (List Int)} (h : Rows w base v xs) (hb : base' ≤ base) : Rows w base' v xs := by
  obtain ⟨V, h1, h2, h3⟩ := h.ex
  exact ⟨V, own_rebase h1 (fun k e => Nat.le_trans hb (own_ge h1 k e)), fun j hj => own_rebase (h2 j hj) (fun k e => Nat.le_trans hb (own_ge (h2 j hj) k e)), h3⟩
/-- One more row. -/
theorem Rows.snoc {w1 w2 : World} {base : Nat} {v u : Value} {xs : List (List Int)} {y : List Int} (h : Rows w1 base v xs) (hbw : base ≤ w1.heap.size) (hb : Below w1.heap.size w1 w2) (hu : OwnN w2 w1.heap.size 5 .u8 u y) :
    ∃ cells : List Value, w2.ownsW base 22 1 v xs.length cells ∧ ∀ v' w3, w3.ownsW base 22 1 v' (xs.length + 1) (cells ++ [u]) → w2.grownBy w3 v.ownBlock → Rows w3 base v' (xs ++ [y]) := by
  obtain ⟨V, h1, h2, h3⟩ := h.ex
  have k12 : Keep (fun _ => False) w1 w2 := Keep.of_below hb _
  refine ⟨(List.range xs.length).map V, k12.own h1 (fun _ _ h => h), fun v' w3 ho hg => ?_⟩
  have k23 := Keep.of_grown hg
  have h1' := k12.own h1 (fun _ _ h => h)
  refine ⟨fun j => if j = xs.length then u else V j, ?_, ?_, ?_⟩
  · rw [List.length_append, List.length_singleton, List.range_succ, List.map_append]
    have e1 : (List.range xs.length).map (fun j => if j = xs.length then u else V j) = (List.range xs.length).map V := by
      apply List.map_congr_left
      intro j hj
      rw [List.mem_range] at hj
      rw [if_neg (by omega)]
    rw [e1]
    simpa using ho
  · intro j hj
    rw [List.length_append, List.length_singleton] at hj
    by_cases hjn : j = xs.length
    · subst hjn
      simp only [if_true]
      rw [List.getElem_append_right (Nat.le_refl _)]
      simp only [Nat.sub_self, List.getElem_singleton]
      exact own_rebase (k23.own hu (fun k hk e => Aps.own_type_ne hu h1' (by decide) hk e)) (fun k hk => Nat.le_trans hbw (own_ge hu k hk))
    · simp only [if_neg hjn]
      rw [List.getElem_append_left (by omega)]
      have h4 := k12.own (h2 j (by omega)) (fun _ _ h => h)
      exact k23.own h4 (fun k hk e => Aps.own_type_ne h4 h1' (by decide) hk e)
  · intro i j hij hj k hi
    rw [List.length_append, List.length_singleton] at hj
    simp only [if_neg (show ¬ i = xs.length by omega)] at hi
    by_cases hjn : j = xs.length
    · simp only [if_pos hjn]
      intro e
      have := own_ge hu k e
      have := own_lt (h2 i (by omega)) k hi
      omega
    · simp only [if_neg hjn]
      exact h3 i j hij (by omega) k hi
end Jrn
end Go.Proofs.YtihgmlcmdpmhhaaDoor
/- The document's Scan: walked. -/
namespace Go.Proofs.YtihgmlcmdpmhhaaDoor
set_option linter.unusedVariables false
set_option linter.unusedSimpArgs false
namespace Jrn
open Go.RowKit Mem Apn Wire Aps AptBytes
def Jr.code : Jr → Int
  | .w e => e.code
  | .num => 4
theorem code_zero {b : List Int} {x n : Nat} {ps : List Int} {e : Er} (h : unf b = (x, ps, n, e)) (he : e ≠ .ok) : ¬ e.code = 0 := by
  obtain ⟨sz, m, e1, h1⟩ : ∃ sz m e, num b = (sz, m, e) := ⟨_, _, _, rfl⟩
  have g1 := num_err1 b
  have g2 := num_err2 b
  rw [h1] at g1 g2
  cases e1 with
  | no j => rw [unf_bad1 h1 (by simp)] at h; simp only [Prod.mk.injEq] at h; rw [← h.2.2.2]; have := g1 j rfl; simp [Er.code, this]
  | ref s j => rw [unf_bad1 h1 (by simp)] at h; simp only [Prod.mk.injEq] at h; rw [← h.2.2.2]; have := g2 s j rfl; simp [Er.code, this]
  | ok =>
    by_cases hs : 65536 < sz
    · rw [unf_many h1 hs] at h; simp only [Prod.mk.injEq] at h; rw [← h.2.2.2]; simp [Er.code]
    · obtain ⟨x2, k2, e2, h2⟩ : ∃ x k e, num (b.drop m) = (x, k, e) := ⟨_, _, _, rfl⟩
      have g1 := num_err1 (b.drop m)
      have g2 := num_err2 (b.drop m)
      rw [h2] at g1 g2
      cases e2 with
      | no j => rw [unf_bad2 h1 hs h2 (by simp)] at h; simp only [Prod.mk.injEq] at h; rw [← h.2.2.2]; have := g1 j rfl; simp [Er.code, this]
      | ref s j => rw [unf_bad2 h1 hs h2 (by simp)] at h; simp only [Prod.mk.injEq] at h; rw [← h.2.2.2]; have := g2 s j rfl; simp [Er.code, this]
      | ok =>
        rw [unf_good h1 hs h2] at h
        split at h
        · simp only [Prod.mk.injEq] at h; rw [← h.2.2.2]; simp [Er.code]
        · split at h
          · simp only [Prod.mk.injEq] at h; exact absurd h.2.2.2.symm he
          · simp only [Prod.mk.injEq] at h; rw [← h.2.2.2]; simp [Er.code]
theorem Rows.slc {w : World} {base : Nat} {v : Value} {xs : List (List Int)} (h : Rows w base v xs) : ∃ A c, v = .slice A xs.length c ∧ xs.length ≤ c := by
  obtain ⟨V, h1, _⟩ := h.ex
  exact own_slc h1
theorem Rows.ge {w : World} {base : Nat} {v : Value} {xs : List (List Int)} (h : Rows w base v xs) (k : Nat) (e : v.ownBlock = some k) : base ≤ k := by
  obtain ⟨V, h1, _⟩ := h.ex
  exact own_ge h1 k e
theorem Rows.below {w w' : World} {base : Nat} {v : Value} {xs : List (List Int)} (h : Rows w base v xs) (hb : Below w.heap.size w w') : Rows w' base v xs := h.keep (Keep.of_below hb (fun _ => False)) (fun _ _ _ h => h)
set_option maxHeartbeats 4000000 in
set_option maxRecDepth 100000 in
theorem rscan_any (ok : Nat → Prop) (A : Option Addr) (n c : Nat) (b : List Int) (w : World) (hr : RdN w ok .u8 A n b) (hc : n ≤ c) (hn : n ≤ 1000000000) (hb : Byt b) :
    Calls Tryd.prog 6 #[.slice A n c] w fun e w' => ∃ v, e = .returned (.tuple #[v, .int .i64 (scan b).2.1, .int .i64 (scan b).2.2.code]) ∧ Rows w' w.heap.size v (scan b).1 ∧ Below w.heap.size w w' := by
  have hlen := hr.len
  have HR := Held.mk hr
  have HBy := Held.mk hb
  have HLn : Held (b.length = n) := ⟨hlen⟩
  clear hr hb hlen
  go_enter Tryd.func6, Tryd.ntmps6
  go_wp2_with fail
  go_loopw [5, 6] (fun v i wr => ∃ (k : Nat) (L : List (List Int)), i = .int .i64 k ∧ k ≤ n ∧ Held (Sc b L k) ∧ Held (Rows wr w.heap.size v L) ∧ Held (Below w.heap.size w wr)) (fun _ i _ => n - (intOf i).toNat)
  case atStart => exact ⟨0, [], rfl, by omega, ⟨Sc.start b⟩, ⟨Rows.nil _ _⟩, ⟨Below.refl _ _⟩⟩
  case round =>
    obtain ⟨k, L, rfl, hk, HS, HW, HBe⟩ := hrel
    obtain ⟨Av, cv, rfl, hcv⟩ := HW.out.slc
    obtain ⟨q, hq⟩ : ∃ q, L.length = q := ⟨_, rfl⟩
    have hqk : q ≤ k := by rw [← hq]; exact HS.out.2.1
    rw [hq] at HW
    by_cases hkn : k < n
    · have hkI : (k : Int) < (n : Int) := by omega
      obtain ⟨A1, n1, c1, hn1, hle1, hrun1, hrd1⟩ := cutF (P := Tryd.prog) 22 5 .i64 Tryd.underlying22 info_size A n c k (by omega) hc
      have hr1 : RdN wr ok .u8 A1 n1 (b.drop k) := RdV.nums_drop (hrd1 wr ok _ (RdV.keep HR.out (Keep.of_below HBe.out (fun _ => False)) (fun _ _ h => h)))
      obtain ⟨x, ps, m, e, hu⟩ : ∃ x ps m e, unf (b.drop k) = (x, ps, m, e) := ⟨_, _, _, _, rfl⟩
      have HU := Held.mk (runframe_any ok A1 n1 c1 (b.drop k) wr hr1 hle1 (by have := hn1.out; omega) (HBy.out.drop k))
      rw [hu] at HU
      simp only at HU
      have hz := code_zero hu
      have HUu := Held.mk hu
      rw [hq]
      clear hr1 hrd1 hu
      by_cases he : e = .ok
      · subst he
        have hz0 : Er.code .ok = 0 := rfl
        rw [hz0] at HU
        clear hz hz0
        by_cases hx : x = q + 1
        · subst hx
          have hN := Held.mk (HS.out.next HBy.out (by rw [HLn.out]; exact hkn) (by rw [hq]; exact HUu.out))
          have hm1 : 1 ≤ m := hN.out.2.1
          have hm2 : k + m ≤ n := by rw [← HLn.out]; exact hN.out.2.2
          go_wp2_with fail
          refine HU.out.mono ?_
          rintro e w1 ⟨u, rfl, ho1, hb1⟩
          obtain ⟨Au, cu, rfl, hcu⟩ := own_slc ho1
          have hba : Below wr.heap.size wr (w1.alloc (.cells #[.slice Au ps.length cu] 22)) := hb1.alloc hb1.size _
          have hoa := ((Keep.refl (fun _ => False) w1).alloc (.cells #[.slice Au ps.length cu] 22)).own ho1 (fun _ _ h => h)
          obtain ⟨cells, hcs, hnx⟩ := HW.out.snoc HBe.out.size hba hoa
          rw [hq] at hcs hnx
          have Hcs := Held.mk hcs
          have Hnx := Held.mk hnx
          have HRd := Held.mk (rd_new w1 [.slice Au ps.length cu] 1 22 rfl)
          have HC3 : Held (((q + 1) + (q + 1) / 4 + 192) * 24 ≤ 281474976710656) := ⟨by omega⟩
          have HC4 : Held (w.heap.size ≤ (w1.alloc (.cells #[.slice Au ps.length cu] 22)).heap.size) := ⟨Nat.le_trans HBe.out.size hba.size⟩
          have HBa := Held.mk (HBe.out.trans (hba.mono HBe.out.size))
          clear ho1 hb1 hba hoa hcs hnx hrun1
          go_wp2_with ((at_builtin; go_loud (refine appS _ w.heap.size rfl (.tmp 37) (.tmp 39) 24 22 (.slice none 0 0) 1 24 rfl Tryd.underlying24 info_rows rfl (by decide) (by decide) _ q cells rfl Hcs.out (fun _ => True) (some ⟨w1.heap.size, 0, none⟩) 1 1 [.slice Au ps.length cu] rfl HRd.out (by simp [Value.oneCell']) HC3.out HC4.out ?_)); (intro v2 w3 ho3 hg3 hat3); (have HN3 := Held.mk (Hnx.out _ _ ho3 hg3)); (have HG3 := Held.mk (Keep.of_grown hg3)); (clear ho3 hg3 hat3))
          go_roundw
          case rel => exact ⟨k + m, L ++ [ps], by go_num, by omega, ⟨hN.out.1⟩, HN3, ⟨((Keep.of_below HBa.out (fun k => w.heap.size ≤ k)).then HG3.out (fun i _ e => HW.out.ge i e)).to_below (fun i hi h => by omega)⟩⟩
          case measure => simp [intOf]; omega
        · have hxI : ¬ (x : Int) = (q : Int) + 1 := by omega
          have HEq := Held.mk (HS.out.num (by rw [HLn.out]; exact hkn) HUu.out (by rw [hq]; exact hx))
          clear hx
          go_wp2_with fail
          refine HU.out.mono ?_
          rintro e w1 ⟨u, rfl, ho1, hb1⟩
          have HB1 := Held.mk hb1
          clear ho1 hb1 hrun1
          go_wp2_with fail
          go_ret3
          rw [HEq.out]
          exact ⟨_, rfl, HW.out.below HB1.out, HBe.out.trans (HB1.out.mono HBe.out.size)⟩
      · have HEq := Held.mk (HS.out.bad (by rw [HLn.out]; exact hkn) HUu.out he)
        have hzI := hz he
        have HE : Held ((Jr.w e).code = e.code) := ⟨rfl⟩
        obtain ⟨ec, hec⟩ : ∃ ec, e.code = ec := ⟨_, rfl⟩
        rw [hec] at HU hzI HE
        clear hz
        go_wp2_with fail
        refine HU.out.mono ?_
        rintro e' w1 ⟨u, rfl, ho1, hb1⟩
        have HB1 := Held.mk hb1
        clear ho1 hb1 hrun1
        go_wp2_with fail
        go_ret3
        rw [HEq.out]
        exact ⟨_, by simp only [HE.out]; rfl, HW.out.below HB1.out, HBe.out.trans (HB1.out.mono HBe.out.size)⟩
    · have hkI : ¬ (k : Int) < (n : Int) := by omega
      have HEq := Held.mk (HS.out.done (by rw [HLn.out]; exact hkn))
      rw [hq]
      go_wp2_with fail
      go_ret3
      rw [HEq.out]
      exact ⟨_, rfl, HW.out, HBe.out⟩
end Jrn
end Go.Proofs.YtihgmlcmdpmhhaaDoor
/- The program's Scan: walked. -/
namespace Go.Proofs.YtihgmlcmdpmhhaaDoor
set_option linter.unusedVariables false
set_option linter.unusedSimpArgs false
namespace Jrn
open Go.RowKit Mem Apn Wire Aps AptBytes
def wNumber : ByteArray := ⟨#[110, 117, 109, 98, 101, 114]⟩
def Jr.enc : Jr → Value
  | .w e => e.enc
  | .num => .iface 52 (.agg #[.string wNumber, .int .i64 4])
set_option maxHeartbeats 4000000 in
set_option maxRecDepth 100000 in
theorem scan_any (ok : Nat → Prop) (A : Option Addr) (n c : Nat) (b : List Int) (w : World) (hr : RdN w ok .u8 A n b) (hc : n ≤ c) (hn : n ≤ 1000000000) (hb : Byt b) :
    Calls Tryd.prog 7 #[.slice A n c] w fun e w' => ∃ v, e = .returned (.tuple #[v, .int .i64 (scan b).2.1, (scan b).2.2.enc]) ∧ Rows w' w.heap.size v (scan b).1 ∧ Below w.heap.size w w' := by
  have hlen := hr.len
  have HR := Held.mk hr
  have HBy := Held.mk hb
  have HLn : Held (b.length = n) := ⟨hlen⟩
  clear hr hb hlen
  go_enter Tryd.func7, Tryd.ntmps7
  go_wp2_with fail
  go_loopw [5, 6] (fun v i wr => ∃ (k : Nat) (L : List (List Int)), i = .int .i64 k ∧ k ≤ n ∧ Held (Sc b L k) ∧ Held (Rows wr w.heap.size v L) ∧ Held (Below w.heap.size w wr)) (fun _ i _ => n - (intOf i).toNat)
  case atStart => exact ⟨0, [], rfl, by omega, ⟨Sc.start b⟩, ⟨Rows.nil _ _⟩, ⟨Below.refl _ _⟩⟩
  case round =>
    obtain ⟨k, L, rfl, hk, HS, HW, HBe⟩ := hrel
    obtain ⟨Av, cv, rfl, hcv⟩ := HW.out.slc
    obtain ⟨q, hq⟩ : ∃ q, L.length = q := ⟨_, rfl⟩
    have hqk : q ≤ k := by rw [← hq]; exact HS.out.2.1
    rw [hq] at HW
    by_cases hkn : k < n
    · have hkI : (k : Int) < (n : Int) := by omega
      obtain ⟨A1, n1, c1, hn1, hle1, hrun1, hrd1⟩ := cutF (P := Tryd.prog) 22 5 .i64 Tryd.underlying22 info_size A n c k (by omega) hc
      have hr1 : RdN wr ok .u8 A1 n1 (b.drop k) := RdV.nums_drop (hrd1 wr ok _ (RdV.keep HR.out (Keep.of_below HBe.out (fun _ => False)) (fun _ _ h => h)))
      obtain ⟨x, ps, m, e, hu⟩ : ∃ x ps m e, unf (b.drop k) = (x, ps, m, e) := ⟨_, _, _, _, rfl⟩
      have HU := Held.mk (unframe_any ok A1 n1 c1 (b.drop k) wr hr1 hle1 (by have := hn1.out; omega) (HBy.out.drop k))
      rw [hu] at HU
      simp only at HU
      have HUu := Held.mk hu
      rw [hq]
      clear hr1 hrd1 hu
      by_cases he : e = .ok
      · subst he
        have hz0 : Er.enc .ok = .nilIface := rfl
        rw [hz0] at HU
        clear hz0
        by_cases hx : x = q + 1
        · subst hx
          have hN := Held.mk (HS.out.next HBy.out (by rw [HLn.out]; exact hkn) (by rw [hq]; exact HUu.out))
          have hm1 : 1 ≤ m := hN.out.2.1
          have hm2 : k + m ≤ n := by rw [← HLn.out]; exact hN.out.2.2
          have hps : Held (ps.length ≤ 65536) := ⟨(unf_fits _ (HBy.out.drop k) _ _ _ HUu.out).2.2.1⟩
          go_wp2_with fail
          refine HU.out.mono ?_
          rintro e w1 ⟨u0, rfl, ho0, hb0⟩
          obtain ⟨Au0, cu0, rfl, hcu0, hr0⟩ := rd_own ho0
          have HOw := Held.mk (own_any _ Au0 ps.length cu0 ps w1 hr0 (by have := hps.out; omega))
          have HB0 := Held.mk hb0
          clear ho0 hb0 hr0 hrun1
          go_wp2_with fail
          refine HOw.out.mono ?_
          rintro e w2 ⟨u, rfl, ⟨ho1, Au, rfl⟩, hb1⟩
          have hba : Below wr.heap.size wr (w2.alloc (.cells #[.slice Au ps.length ps.length] 22)) := (HB0.out.trans (hb1.mono HB0.out.size)).alloc (Nat.le_trans HB0.out.size hb1.size) _
          have hoa := own_rebase (((Keep.refl (fun _ => False) w2).alloc (.cells #[.slice Au ps.length ps.length] 22)).own ho1 (fun _ _ h => h)) (fun k hk => Nat.le_trans HB0.out.size (own_ge ho1 k hk))
          obtain ⟨cells, hcs, hnx⟩ := HW.out.snoc HBe.out.size hba hoa
          rw [hq] at hcs hnx
          have Hcs := Held.mk hcs
          have Hnx := Held.mk hnx
          have HRd := Held.mk (rd_new w2 [.slice Au ps.length ps.length] 1 22 rfl)
          have HC3 : Held (((q + 1) + (q + 1) / 4 + 192) * 24 ≤ 281474976710656) := ⟨by omega⟩
          have HC4 : Held (w.heap.size ≤ (w2.alloc (.cells #[.slice Au ps.length ps.length] 22)).heap.size) := ⟨Nat.le_trans HBe.out.size hba.size⟩
          have HBa := Held.mk (HBe.out.trans (hba.mono HBe.out.size))
          clear ho1 hb1 hba hoa hcs hnx HOw
          go_wp2_with ((at_builtin; go_loud (refine appS _ w.heap.size rfl (.tmp 39) (.tmp 42) 24 22 (.slice none 0 0) 1 24 rfl Tryd.underlying24 info_rows rfl (by decide) (by decide) _ q cells rfl Hcs.out (fun _ => True) (some ⟨w2.heap.size, 0, none⟩) 1 1 [.slice Au ps.length ps.length] rfl HRd.out (by simp [Value.oneCell']) HC3.out HC4.out ?_)); (intro v2 w3 ho3 hg3 hat3); (have HN3 := Held.mk (Hnx.out _ _ ho3 hg3)); (have HG3 := Held.mk (Keep.of_grown hg3)); (clear ho3 hg3 hat3))
          go_roundw
          case rel => exact ⟨k + m, L ++ [ps], by go_num, by omega, ⟨hN.out.1⟩, HN3, ⟨((Keep.of_below HBa.out (fun k => w.heap.size ≤ k)).then HG3.out (fun i _ e => HW.out.ge i e)).to_below (fun i hi h => by omega)⟩⟩
          case measure => simp [intOf]; omega
        · have hxI : ¬ (x : Int) = (q : Int) + 1 := by omega
          have HEq := Held.mk (HS.out.num (by rw [HLn.out]; exact hkn) HUu.out (by rw [hq]; exact hx))
          clear hx
          go_wp2_with fail
          refine HU.out.mono ?_
          rintro e w1 ⟨u, rfl, ho1, hb1⟩
          have HB1 := Held.mk hb1
          clear ho1 hb1 hrun1
          go_wp2_with fail
          go_ret3
          rw [HEq.out]
          exact ⟨_, rfl, HW.out.below HB1.out, HBe.out.trans (HB1.out.mono HBe.out.size)⟩
      · have HEq := Held.mk (HS.out.bad (by rw [HLn.out]; exact hkn) HUu.out he)
        have HE : Held ((Jr.w e).enc = e.enc) := ⟨rfl⟩
        obtain ⟨T, v, hec⟩ : ∃ T v, e.enc = .iface T v := by
          cases e with
          | ok => exact absurd rfl he
          | no j => exact ⟨_, _, rfl⟩
          | ref s j => exact ⟨_, _, rfl⟩
        rw [hec] at HU HE
        clear hec
        go_wp2_with fail
        refine HU.out.mono ?_
        rintro e' w1 ⟨u, rfl, ho1, hb1⟩
        have HB1 := Held.mk hb1
        clear ho1 hb1 hrun1
        go_wp2_with fail
        go_ret3
        rw [HEq.out]
        exact ⟨_, by simp only [HE.out]; rfl, HW.out.below HB1.out, HBe.out.trans (HB1.out.mono HBe.out.size)⟩
    · have hkI : ¬ (k : Int) < (n : Int) := by omega
      have HEq := Held.mk (HS.out.done (by rw [HLn.out]; exact hkn))
      rw [hq]
      go_wp2_with fail
      go_ret3
      rw [HEq.out]
      exact ⟨_, rfl, HW.out, HBe.out⟩
end Jrn
end Go.Proofs.YtihgmlcmdpmhhaaDoor
