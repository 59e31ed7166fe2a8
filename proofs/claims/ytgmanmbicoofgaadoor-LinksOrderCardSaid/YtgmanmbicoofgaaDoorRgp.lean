/- The document's groups: the plain part, and walked. -/
import Derived.Test.YtgmanmbicoofgaaDoorFit
namespace Go.Proofs.YtgmanmbicoofgaaDoor
set_option linter.unusedVariables false
set_option linter.unusedSimpArgs false
namespace Grp
open Go.RowKit Mem
/-- What stands while the lesser number is taken over. -/
structure Gi (ps : List (Nat × Nat)) (n : Nat) (L : List Nat) : Prop where
  len : L.length = n
  le : ∀ i, L.getD i 0 ≤ i
  tied : ∀ i, i < n → Tied ps i (L.getD i 0)
theorem Gi.start (ps : List (Nat × Nat)) (n : Nat) : Gi ps n (List.range n) := by
  refine ⟨by simp, frst_range n, fun i hi => ?_⟩
  rw [List.getD_eq_getElem?_getD, List.getElem?_eq_getElem (by simpa using hi)]
  simp
  exact .refl _
theorem Gi.set_ {ps : List (Nat × Nat)} {n : Nat} {L : List Nat} (h : Gi ps n L) {a b : Nat} (hab : (a, b) ∈ ps ∨ (b, a) ∈ ps) (ha : a < n) (hb : b < n) (hlt : L.getD a 0 < L.getD b 0) : Gi ps n (L.set b (L.getD a 0)) := by
  refine ⟨by simp [h.len], fun i => ?_, fun i hi => ?_⟩
  · rw [getD_set]
    split
    · rename_i hc
      have := h.le b
      omega
    · exact h.le i
  · rw [getD_set]
    split
    · rename_i hc
      obtain ⟨rfl, _⟩ := hc
      exact (Tied.step (.refl i) hab.symm).trans (h.tied a ha)
    · exact h.tied i hi
theorem sum_set : ∀ (L : List Nat) (b v : Nat), b < L.length → (L.set b v).sum + L.getD b 0 = L.sum + v
  | [], b, v, h => by simp at h
  | x :: L, 0, v, _ => by simp; omega
  | x :: L, b + 1, v, h => by
    have := sum_set L b v (by simpa using h)
    simp at this ⊢
    omega
theorem Gi.done {ps : List (Nat × Nat)} {n : Nat} {L : List Nat} (h : Gi ps n L) (hn : ∀ p ∈ ps, p.1 < n ∧ p.2 < n) (he : ∀ p ∈ ps, L.getD p.1 0 = L.getD p.2 0) {i : Nat} (hi : i < n) : L.getD i 0 = leasts ps id i := by
  have hl := least_leasts ps
  have hs : ∀ {i j}, Tied ps i j → L.getD i 0 = L.getD j 0 := by
    intro i j ht
    induction ht with
    | refl => rfl
    | step _ hab ih =>
      rw [ih]
      rcases hab with h1 | h1
      · exact he _ h1
      · exact (he _ h1).symm
  have h1 := hl.same (h.tied i hi)
  have h2 := hs (hl.tied i)
  have h3 := hl.le (L.getD i 0)
  have h4 := h.le (leasts ps id i)
  have h5 := hl.le i
  omega
def bOf : Value → Nat
  | .bool true => 1
  | _ => 0
/-- What the n numbers of a block are together. -/
def msum (w : World) (g n : Nat) : Nat := ((List.range n).map fun i => match w.cell? ⟨g, i, none⟩ with | some (.int _ z) => z.toNat | _ => 0).sum
theorem msum_own {w : World} {base g n cap : Nat} {L : List Nat} (h : w.ownsRow base 3 1 (.slice (some ⟨g, 0, none⟩) n cap) n (ints L)) : msum w g n = L.sum := by
  have hl : L.length = n := by have := h.1; simpa [ints] using this
  unfold msum
  congr 1
  symm
  refine Ord.row_ext hl (fun i hi => ?_)
  have := World.ownsRow.cellAt h i (by simpa using hi)
  rw [this]
  simp [ints, List.getElem?_eq_getElem (show i < L.length by omega)]
theorem own_cell {w : World} {base g n cap : Nat} {L : List Nat} (h : w.ownsRow base 3 1 (.slice (some ⟨g, 0, none⟩) n cap) n (ints L)) {i : Nat} (hi : i < n) : w.cell? ⟨g, i, none⟩ = some (.int .i64 (L.getD i 0 : Nat)) := by
  have hl : L.length = n := by have := h.1; simpa [ints] using this
  rw [World.ownsRow.cellAt h i (by simpa using hi)]
  simp [ints, List.getD_eq_getElem?_getD, List.getElem?_eq_getElem (show i < L.length by omega)]
theorem own_put {w : World} {base g n cap : Nat} {L : List Nat} (h : w.ownsRow base 3 1 (.slice (some ⟨g, 0, none⟩) n cap) n (ints L)) {i : Nat} (hi : i < n) (v : Nat) : (w.setCell ⟨g, i, none⟩ (.int .i64 (v : Int))).ownsRow base 3 1 (.slice (some ⟨g, 0, none⟩) n cap) n (ints (L.set i v)) := by
  have := own_set h hi (.int .i64 (v : Int))
  unfold ints at *
  rw [List.map_set]
  exact this
theorem below_drewN' {n : Nat} {w w' : World} (h : Below n w w') (k : Nat) : Below n w (w'.drewN k) := ⟨h.os, h.tape, h.output, h.size, h.block⟩
theorem own_drewN {w : World} {base e s n : Nat} {v : Value} {xs : List Value} (h : w.ownsRow base e s v n xs) (k : Nat) : (w.drewN k).ownsRow base e s v n xs := ((Keep.refl (fun _ => False) w).drewN k).own h (fun _ _ h => h)
set_option maxHeartbeats 4000000 in
set_option maxRecDepth 100000 in
theorem rgroups_any (n : Nat) (A : Option Addr) (m c : Nat) (ps : List (Nat × Nat)) (ok : Nat → Prop) (w : World) (hn : n ≤ 4096) (hm : m = ps.length) (hb : m ≤ 8796093022208) (h : RdP w ok A ps) (hp : ∀ p ∈ ps, p.1 < n ∧ p.2 < n) :
    Calls Tryd.prog 40 #[.int .i64 n, .slice A m c] w fun e w' => ∃ v, e = .returned v ∧ w'.ownsRow w.heap.size 3 1 v n (ints (Ord.row n (leasts ps id))) ∧ Below w.heap.size w w' := by
  have HA := Held.mk h
  have HP := Held.mk hp
  have HM := Held.mk hm
  clear h hp hm
  go_enter Tryd.func40, Tryd.ntmps40
  go_wp2_with fail
  go_loopw [5, 6] (fun v i wr => ∃ k : Nat, i = .int .i64 k ∧ k ≤ n ∧ Held (wr.ownsRow w.heap.size 3 1 v k (ints (List.range k))) ∧ Held (Below w.heap.size w wr)) (fun _ i _ => n - (intOf i).toNat)
  case atStart => exact ⟨0, rfl, Nat.zero_le _, ⟨own_nil _ _ _ _⟩, ⟨Below.refl _ _⟩⟩
  case round =>
    obtain ⟨k, rfl, hk, HO, HB⟩ := hrel
    obtain ⟨Ao, co, rfl, hco⟩ := own_slice_ HO.out
    by_cases hlt : k < n
    · have HL3 : Held ((k + 1 + (k + 1) / 4 + 192) * 8 ≤ 281474976710656) := ⟨by omega⟩
      have HRx : Held (RdV (wr.alloc (.cells #[.int .i64 (k : Int)] 3)) (fun _ => True) 1 (some ⟨wr.heap.size, 0, none⟩) 1 [.int .i64 (k : Int)]) := ⟨rfl, fun _ => ⟨_, rfl, trivial, World.news_of_block (cs := #[.int .i64 (k : Int)]) (t := 3) (fr := (0, 0)) (heap_alloc_new _ _)⟩⟩
      have HOx : Held ((wr.alloc (.cells #[.int .i64 (k : Int)] 3)).ownsRow w.heap.size 3 1 (.slice Ao k co) k (ints (List.range k))) := ⟨HO.out.alloc _⟩
      have HX : Held (w.heap.size ≤ (wr.alloc (.cells #[.int .i64 (k : Int)] 3)).heap.size) := ⟨by have := HB.out.size; simp; omega⟩
      go_wp2_with ((at_builtin; go_loud (refine appS _ w.heap.size rfl (.tmp 16) (.tmp 18) 23 3 (.int .i64 0) 1 8 rfl underI infoI rfl (by decide) (by decide) (.slice Ao k co) k (ints (List.range k)) rfl HOx.out (fun _ => True) (some ⟨wr.heap.size, 0, none⟩) 1 1 [.int .i64 (k : Int)] rfl HRx.out (one_one _) HL3.out HX.out ?_)); (intro v2 w3 ho3 hg3 hat3))
      have HBn : Held (Below w.heap.size w w3) := ⟨(((Keep.of_below HB.out (fun _ => False)).alloc _).grown hg3 (fun i hi e => by have := own_ge HO.out i e; omega)).to_below (fun _ _ h => h)⟩
      have HOn : Held (w3.ownsRow w.heap.size 3 1 v2 (k + 1) (ints (List.range (k + 1)))) := ⟨by
        have hi : ints (List.range (k + 1)) = ints (List.range k) ++ [.int .i64 (k : Int)] := by simp [ints, List.range_succ]
        rw [hi]
        exact ho3⟩
      clear hg3 hat3 ho3 HO HB HOx HRx HX
      go_roundw
      case rel => exact ⟨k + 1, by go_num, by omega, HOn, HBn⟩
      case measure => simp [intOf]; omega
    · obtain rfl : k = n := by omega
      generalize wr = w1 at *
      by_cases hn0 : k = 0
      · subst hn0
        have hps : ps = [] := by
          cases hpl : ps with
          | nil => rfl
          | cons p l =>
            have := HP.out p (by rw [hpl]; exact List.mem_cons_self)
            omega
        subst hps
        have hm0 : m = 0 := HM.out
        subst hm0
        go_wp2_with fail
        go_loopw [7] (fun a wr => (a = .bool true ∨ a = .bool false) ∧ Held (wr.ownsRow w.heap.size 3 1 (.slice Ao 0 co) 0 (ints (List.range 0))) ∧ Held (Below w.heap.size w wr)) (fun a _ => bOf a)
        case atStart => exact ⟨.inl rfl, HO, HB⟩
        case round =>
          obtain ⟨ha, HO1, HB1⟩ := hrel
          clear HO HB
          rcases ha with rfl | rfl
          · generalize wr = w2 at *
            go_wp2_with fail
            go_loopw [7, 8] (fun a i wr => a = .bool false ∧ i = .int .i64 0 ∧ Held (wr.ownsRow w.heap.size 3 1 (.slice Ao 0 co) 0 (ints (List.range 0))) ∧ Held (Below w.heap.size w wr)) (fun _ _ _ => 0)
            case atStart => exact ⟨rfl, rfl, HO1, HB1⟩
            case round =>
              obtain ⟨rfl, rfl, HO2, HB2⟩ := hrel
              clear HO1 HB1
              go_wp2_with fail
              go_roundw
              case rel => exact ⟨.inr rfl, HO2, HB2⟩
              case measure => simp [bOf]
          · go_wp2_with fail
            go_ret
            exact ⟨_, rfl, HO1.out, HB1.out⟩
      · have HO' := HO.out
        obtain ⟨g, cap, hge, _⟩ : ∃ g cap, Ao = some ⟨g, 0, none⟩ ∧ cap = co := by
          obtain ⟨g, cap, e, _, _⟩ := HO.out.form (by omega)
          injection e with e1 _ e2
          exact ⟨g, cap, e1, e2.symm⟩
        subst hge
        have HGg : Held (w.heap.size ≤ g) := ⟨own_ge HO.out g rfl⟩
        clear HO'
        have HG0 : Held (Gi ps k (List.range k)) := ⟨Gi.start ps k⟩
        go_wp2_with fail
        go_loopw [7] (fun a wr => ∃ (L : List Nat) (b : Bool), a = .bool b ∧ Held (Gi ps k L) ∧ Held (b = false → ∀ p ∈ ps, L.getD p.1 0 = L.getD p.2 0) ∧ Held (wr.ownsRow w.heap.size 3 1 (.slice (some ⟨g, 0, none⟩) k co) k (ints L)) ∧ Held (Below w.heap.size w wr)) (fun a wr => 2 * msum wr g k + bOf a)
        case atStart => exact ⟨_, true, rfl, HG0, ⟨fun h => by cases h⟩, HO, HB⟩
        case round =>
          obtain ⟨L0, b0, rfl, HGi, HEq, HO0, HB0⟩ := hrel
          clear HG0 HO HB
          generalize wr = w2 at *
          cases b0 with
          | false =>
            have HF : Held (ints L0 = ints (Ord.row k (leasts ps id))) := ⟨by
              congr 1
              refine Ord.row_ext HGi.out.len (fun i hi => ?_)
              have := HGi.out.done HP.out (HEq.out rfl) hi
              rw [← this, List.getD_eq_getElem?_getD, List.getElem?_eq_getElem (by rw [HGi.out.len]; exact hi)]
              rfl⟩
            go_wp2_with fail
            go_ret
            exact ⟨_, rfl, by rw [← HF.out]; exact HO0.out, HB0.out⟩
          | true =>
            have hms : Held (msum w2 g k = L0.sum) := ⟨msum_own HO0.out⟩
            have hgs : L0.length = k := HGi.out.len
            go_wp2_with fail
            go_loopw [7, 8] (fun a i wr => ∃ (L : List Nat) (b : Bool) (j : Nat), a = .bool b ∧ i = .int .i64 j ∧ j ≤ m ∧ Held (Gi ps k L) ∧ Held (b = false → L = L0 ∧ ∀ p ∈ ps.take j, L0.getD p.1 0 = L0.getD p.2 0) ∧ Held (L.sum ≤ L0.sum ∧ (b = true → L.sum < L0.sum)) ∧ Held (wr.ownsRow w.heap.size 3 1 (.slice (some ⟨g, 0, none⟩) k co) k (ints L)) ∧ Held (Below w.heap.size w wr)) (fun _ i _ => m - (intOf i).toNat)
            case atStart => exact ⟨L0, false, 0, rfl, rfl, Nat.zero_le _, HGi, ⟨fun _ => ⟨rfl, by simp⟩⟩, ⟨Nat.le_refl _, fun h => by cases h⟩, HO0, HB0⟩
            case round =>
              obtain ⟨L, bb, j, rfl, rfl, hj, HGj, HEj, HSj, HOj, HBj⟩ := hrel
              clear HGi HO0 HB0 HEq
              by_cases hjm : j < m
              · have hjl : j < ps.length := by have := HM.out; omega
                obtain ⟨ad, rfl, hak, c0, c1⟩ := (HA.out.keep (Keep.of_below HBj.out (fun _ => False)) (fun _ _ h => h)).at_ hjl
                have hpk := HP.out ps[j] (List.getElem_mem hjl)
                have HMem : Held ((ps[j].1, ps[j].2) ∈ ps) := ⟨List.getElem_mem hjl⟩
                have HT : Held (ps.take (j + 1) = ps.take j ++ [(ps[j].1, ps[j].2)]) := ⟨by rw [List.take_succ_eq_append_getElem hjl]⟩
                generalize ps[j].1 = a at *
                generalize ps[j].2 = b at *
                obtain ⟨ha, hb'⟩ := hpk
                have g0 := own_cell HOj.out ha
                have g1 := own_cell HOj.out hb'
                have hLl : L.length = k := HGj.out.len
                have hlI : (m : Int) ≤ 8796093022208 := by omega
                rcases Nat.lt_trichotomy (L.getD a 0) (L.getD b 0) with hab | hab | hab
                · have HGn : Held (Gi ps k (L.set b (L.getD a 0))) := ⟨HGj.out.set_ (.inl HMem.out) ha hb' hab⟩
                  have HSn : Held ((L.set b (L.getD a 0)).sum ≤ L0.sum ∧ (true = true → (L.set b (L.getD a 0)).sum < L0.sum)) := ⟨by
                    have h1 := sum_set L b (L.getD a 0) (by omega)
                    have h2 := HSj.out.1
                    exact ⟨by omega, fun _ => by omega⟩⟩
                  have HOn : Held (∀ q q2 : Nat, (((wr.drewN q).setCell ⟨g, b, none⟩ (.int .i64 (L.getD a 0 : Nat))).drewN q2).ownsRow w.heap.size 3 1 (.slice (some ⟨g, 0, none⟩) k co) k (ints (L.set b (L.getD a 0)))) := ⟨fun q q2 => own_drewN (own_put (own_drewN HOj.out q) hb' _) q2⟩
                  have HBn : Held (∀ q q2 : Nat, Below w.heap.size w (((wr.drewN q).setCell ⟨g, b, none⟩ (.int .i64 (L.getD a 0 : Nat))).drewN q2)) := ⟨fun q q2 => below_drewN' (below_set (below_drewN' HBj.out q) HGg.out _) q2⟩
                  have n0 : ∀ q : Nat, ((wr.drewN q).setCell ⟨g, b, none⟩ (.int .i64 (L.getD a 0 : Nat))).cell? ⟨g, a, none⟩ = some (.int .i64 (L.getD a 0 : Nat)) := fun q => by
                    have := own_cell (HOn.out q 0) ha
                    rw [getD_set, if_neg (fun e => by rw [e.1] at hab; omega)] at this
                    exact this
                  have n1 : ∀ q : Nat, ((wr.drewN q).setCell ⟨g, b, none⟩ (.int .i64 (L.getD a 0 : Nat))).cell? ⟨g, b, none⟩ = some (.int .i64 (L.getD a 0 : Nat)) := fun q => by
                    have := own_cell (HOn.out q 0) hb'
                    rw [getD_set, if_pos ⟨rfl, by omega⟩] at this
                    exact this
                  have hfr : wr.frozen? ⟨g, b, none⟩ = false := own_frozen HOj.out b
                  have hd : decide (((L.getD a 0 : Nat) : Int) < (L.getD b 0 : Nat)) = true := decide_eq_true (by omega)
                  have hd1 : ((L.getD a 0 : Nat) : Int) < (L.getD b 0 : Nat) := by omega
                  clear HGj HEj HSj HOj HBj hab
                  generalize L.getD a 0 = x at *
                  generalize L.getD b 0 = y at *
                  go_wp2_with fail
                  go_quiet (fail)
                  go_wp2_with fail
                  go_quiet (fail)
                  go_wp2_with fail
                  go_roundw
                  case rel => exact ⟨_, true, j + 1, rfl, by go_num, by omega, HGn, ⟨fun h => by cases h⟩, ⟨⟨HSn.out.1, fun _ => HSn.out.2 (by trivial)⟩⟩, ⟨HOn.out _ _⟩, ⟨HBn.out _ _⟩⟩
                  case measure => simp [intOf]; omega
                · have HEn : Held (bb = false → L = L0 ∧ ∀ p ∈ ps.take (j + 1), L0.getD p.1 0 = L0.getD p.2 0) := ⟨fun h => by
                    obtain ⟨h1, h2⟩ := HEj.out h
                    refine ⟨h1, fun p hp => ?_⟩
                    rw [HT.out] at hp
                    rcases List.mem_append.1 hp with h3 | h3
                    · exact h2 p h3
                    · obtain rfl : p = (a, b) := by simpa using h3
                      rw [← h1]
                      exact hab⟩
                  have HOn : Held (∀ q : Nat, (wr.drewN q).ownsRow w.heap.size 3 1 (.slice (some ⟨g, 0, none⟩) k co) k (ints L)) := ⟨fun q => own_drewN HOj.out q⟩
                  have HBn : Held (∀ q : Nat, Below w.heap.size w (wr.drewN q)) := ⟨fun q => below_drewN' HBj.out q⟩
                  rw [← hab] at g1
                  clear HEj HOj HBj hab
                  generalize L.getD a 0 = x at *
                  go_wp2_with fail
                  go_quiet (fail)
                  go_wp2_with fail
                  go_quiet (fail)
                  go_wp2_with fail
                  go_roundw
                  case rel => exact ⟨L, bb, j + 1, rfl, by go_num, by omega, HGj, HEn, HSj, ⟨HOn.out _⟩, ⟨HBn.out _⟩⟩
                  case measure => simp [intOf]; omega
                · have HGn : Held (Gi ps k (L.set a (L.getD b 0))) := ⟨HGj.out.set_ (.inr HMem.out) hb' ha hab⟩
                  have HSn : Held ((L.set a (L.getD b 0)).sum ≤ L0.sum ∧ (true = true → (L.set a (L.getD b 0)).sum < L0.sum)) := ⟨by
                    have h1 := sum_set L a (L.getD b 0) (by omega)
                    have h2 := HSj.out.1
                    exact ⟨by omega, fun _ => by omega⟩⟩
                  have HOn : Held (∀ q : Nat, ((wr.drewN q).setCell ⟨g, a, none⟩ (.int .i64 (L.getD b 0 : Nat))).ownsRow w.heap.size 3 1 (.slice (some ⟨g, 0, none⟩) k co) k (ints (L.set a (L.getD b 0)))) := ⟨fun q => own_put (own_drewN HOj.out q) ha _⟩
                  have HBn : Held (∀ q : Nat, Below w.heap.size w ((wr.drewN q).setCell ⟨g, a, none⟩ (.int .i64 (L.getD b 0 : Nat)))) := ⟨fun q => below_set (below_drewN' HBj.out q) HGg.out _⟩
                  have hfr : wr.frozen? ⟨g, a, none⟩ = false := own_frozen HOj.out a
                  have hd : decide (((L.getD a 0 : Nat) : Int) < (L.getD b 0 : Nat)) = false := decide_eq_false (by omega)
                  have hd1 : ¬ ((L.getD a 0 : Nat) : Int) < (L.getD b 0 : Nat) := by omega
                  have hd2 : decide (((L.getD b 0 : Nat) : Int) < (L.getD a 0 : Nat)) = true := decide_eq_true (by omega)
                  have hd3 : ((L.getD b 0 : Nat) : Int) < (L.getD a 0 : Nat) := by omega
                  clear HGj HEj HSj HOj HBj hab
                  generalize L.getD a 0 = x at *
                  generalize L.getD b 0 = y at *
                  go_wp2_with fail
                  go_quiet (fail)
                  go_wp2_with fail
                  go_quiet (fail)
                  go_wp2_with fail
                  go_roundw
                  case rel => exact ⟨_, true, j + 1, rfl, by go_num, by omega, HGn, ⟨fun h => by cases h⟩, ⟨⟨HSn.out.1, fun _ => HSn.out.2 (by trivial)⟩⟩, ⟨HOn.out _⟩, ⟨HBn.out _⟩⟩
                  case measure => simp [intOf]; omega
              · obtain rfl : j = m := by omega
                have HEn : Held (bb = false → ∀ p ∈ ps, L.getD p.1 0 = L.getD p.2 0) := ⟨fun h => by
                  obtain ⟨h1, h2⟩ := HEj.out h
                  rw [HM.out, List.take_length] at h2
                  rw [h1]
                  exact h2⟩
                have hms2 : Held (msum wr g k = L.sum) := ⟨msum_own HOj.out⟩
                go_wp2_with fail
                go_roundw
                case rel => exact ⟨L, bb, rfl, HGj, HEn, HOj, HBj⟩
                case measure =>
                  have h1 := hms.out
                  have h2 := hms2.out
                  have h3 := HSj.out
                  cases bb
                  · simp only [bOf]
                    omega
                  · have := h3.2 rfl
                    simp only [bOf]
                    omega
end Grp
end Go.Proofs.YtgmanmbicoofgaaDoor
