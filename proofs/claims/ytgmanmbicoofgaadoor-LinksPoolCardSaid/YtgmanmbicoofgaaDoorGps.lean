/- Groups: sized, named, Groups where all is well. -/
import Derived.Test.YtgmanmbicoofgaaDoorFor
namespace Go.Proofs.YtgmanmbicoofgaaDoor
set_option linter.unusedVariables false
set_option linter.unusedSimpArgs false
namespace Grp
open Go.RowKit Mem
def two (p : Nat × Nat) : List Value := [.int .i64 (p.1 : Int), .int .i64 (p.2 : Int)]
theorem two_len (p : Nat × Nat) : (two p).length = 2 := rfl
/-- A slice of pairs that is read. -/
def RdP (w : World) (ok : Nat → Prop) (A : Option Addr) (ps : List (Nat × Nat)) : Prop := RdV w ok 2 A ps.length (ps.flatMap two)
theorem flat_get {α : Type} (cells : α → List Value) (s : Nat) (hs : ∀ a, (cells a).length = s) : ∀ (l : List α) (k t : Nat) (hk : k < l.length), t < s → (l.flatMap cells)[k * s + t]? = (cells l[k])[t]?
  | [], k, t, hk, _ => by simp at hk
  | a :: l, 0, t, hk, ht => by
    rw [List.flatMap_cons, List.getElem?_append_left (by rw [hs]; omega)]
    simp
  | a :: l, k + 1, t, hk, ht => by
    rw [List.flatMap_cons, List.getElem?_append_right (by rw [hs, Nat.add_mul]; omega), hs]
    have := flat_get cells s hs l k t (by simpa using hk) ht
    rw [show (k + 1) * s + t - s = k * s + t from by rw [Nat.add_mul]; omega, this]
    simp
theorem RdP.at_ {w : World} {ok : Nat → Prop} {A : Option Addr} {ps : List (Nat × Nat)} (h : RdP w ok A ps) {k : Nat} (hk : k < ps.length) : ∃ ad, A = some ad ∧ ok ad.block ∧
    w.cell? (ad.add (k * 2)) = some (.int .i64 (ps[k].1 : Int)) ∧ w.cell? ⟨(ad.add (k * 2)).block, (ad.add (k * 2)).off + 1, none⟩ = some (.int .i64 (ps[k].2 : Int)) := by
  obtain ⟨ad, e, hb, hc⟩ := h.2 (by omega)
  refine ⟨ad, e, hb, ?_, ?_⟩
  · exact hc _ _ (by rw [← Nat.add_zero (k * 2), flat_get two 2 two_len ps k 0 hk (by omega)]; rfl)
  · have := hc (k * 2 + 1) _ (by rw [flat_get two 2 two_len ps k 1 hk (by omega)]; rfl)
    rw [← add_of_add] at this
    exact this
theorem RdP.keep {w w' : World} {ok S : Nat → Prop} {A : Option Addr} {ps : List (Nat × Nat)} (h : RdP w ok A ps) (hk : Keep S w w') (hs : ∀ k, ok k → ¬ S k) : RdP w' ok A ps := RdV.keep h hk hs
theorem sized_ok (n : Nat) (w : World) (hn : n ≤ 4096) : Calls Tryd.prog 42 #[.int .i64 n] w fun e w' => e = .returned .nilIface ∧ w' = w := by
  go_enter Tryd.func42, Tryd.ntmps42
  have h1 : ¬ ((n : Int) < 0) := by omega
  have h2 : ¬ ((4096 : Int) < n) := by omega
  go_wp2
  go_ret
  exact ⟨rfl, rfl⟩
set_option maxHeartbeats 4000000 in
set_option maxRecDepth 100000 in
theorem named_ok (n : Nat) (A : Option Addr) (m c : Nat) (ps : List (Nat × Nat)) (ok : Nat → Prop) (w : World) (hm : m = ps.length) (hb : m ≤ 9007199254740992) (h : RdP w ok A ps) (hok : ∀ k, ok k → k < w.heap.size) (hp : ∀ p ∈ ps, p.1 < n ∧ p.2 < n) :
    Calls Tryd.prog 43 #[.int .i64 n, .slice A m c] w fun e w' => e = .returned .nilIface ∧ Below w.heap.size w w' := by
  have HA := Held.mk h
  have HP := Held.mk hp
  have HO := Held.mk hok
  have HM := Held.mk hm
  clear h hp hok hm
  go_enter Tryd.func43, Tryd.ntmps43
  go_wp2
  go_loopw [9] (fun i wr => ∃ k : Nat, i = .int .i64 k ∧ k ≤ m ∧ Held (Below w.heap.size w wr)) (fun i _ => m - (intOf i).toNat)
  case atStart => exact ⟨0, rfl, Nat.zero_le _, ⟨Below.refl _ _⟩⟩
  case round =>
    obtain ⟨k, rfl, hk, HB⟩ := hrel
    by_cases hlt : k < m
    · have hkp : k < ps.length := by have := HM.out; omega
      obtain ⟨ad, rfl, hak, c0, c1⟩ := (HA.out.keep (Keep.of_below HB.out (fun _ => False)) (fun _ _ h => h)).at_ hkp
      have hpk := HP.out ps[k] (List.getElem_mem hkp)
      generalize ps[k].1 = a at *
      generalize ps[k].2 = b at *
      obtain ⟨ha, hb'⟩ := hpk
      have h0 : ¬ ((a : Int) < 0) := by omega
      have h1 : ¬ ((b : Int) < 0) := by omega
      have h2 : ¬ ((n : Int) ≤ a) := by omega
      have h3 : ¬ ((n : Int) ≤ b) := by omega
      have HBn : Held (Below w.heap.size w (wr.alloc (.cells #[.int .i64 (a : Int), .int .i64 (b : Int)] 73))) := ⟨HB.out.alloc HB.out.size _⟩
      go_wp2
      all_goals exact ⟨⟨k + 1, by go_num, by omega, HBn⟩, by simp [intOf]; omega⟩
    · obtain rfl : k = m := by omega
      go_wp2
      go_ret
      exact ⟨rfl, HB.out⟩
set_option maxHeartbeats 4000000 in
set_option maxRecDepth 100000 in
theorem groups_ok (n : Nat) (A : Option Addr) (m c : Nat) (ps : List (Nat × Nat)) (ok : Nat → Prop) (w : World) (hn : n ≤ 4096) (hm : m = ps.length) (hb : m ≤ 9007199254740992) (h : RdP w ok A ps) (hok : ∀ k, ok k → k < w.heap.size) (hp : ∀ p ∈ ps, p.1 < n ∧ p.2 < n) :
    Calls Tryd.prog 10 #[.int .i64 n, .slice A m c] w fun e w' => ∃ C, e = .returned (.tuple #[.slice (some ⟨C, 0, none⟩) n n, .nilIface]) ∧ Nr w' w.heap.size C n (Ord.row n (leasts ps id)) ∧ Below w.heap.size w w' := by
  have HA := Held.mk h
  have HP := Held.mk hp
  have HO := Held.mk hok
  have HM := Held.mk hm
  clear h hp hok hm
  go_enter Tryd.func10, Tryd.ntmps10
  go_wp2_with fail
  refine (sized_ok n w hn).mono ?_
  rintro e w1 ⟨rfl, rfl⟩
  go_wp2_with fail
  refine (named_ok n A m c ps ok w1 HM.out hb HA.out HO.out HP.out).mono ?_
  rintro e w2 ⟨rfl, hb2⟩
  have HB2 := Held.mk hb2
  clear hb2
  go_wp2_with fail
  refine (new_any n w2 (by omega)).mono ?_
  rintro e w3 ⟨B, rfl, hBw, hn3, hb3⟩
  have HN3 := Held.mk (own_rebase (base' := w1.heap.size) hn3 (fun k e => by
    have : B = k := by simpa [Value.ownBlock] using e
    subst this
    have := HB2.out.size
    omega))
  have HB3 : Held (Below w1.heap.size w1 w3) := ⟨HB2.out.trans (hb3.mono HB2.out.size)⟩
  have HG : Held (w1.heap.size ≤ B) := ⟨by have := HB2.out.size; omega⟩
  clear hn3 hb3 hBw HB2
  go_wp2_with fail
  go_loopw [26] (fun i wr => ∃ (k : Nat) (F : List Nat), i = .int .i64 k ∧ k ≤ m ∧ Held (Frst F) ∧ Held (∀ i, i < n → root F i = leasts (ps.take k) id i) ∧ Held (Nr wr w1.heap.size B n F) ∧ Held (Below w1.heap.size w1 wr)) (fun i _ => m - (intOf i).toNat)
  case atStart => exact ⟨0, _, rfl, Nat.zero_le _, ⟨frst_range n⟩, ⟨fun i hi => root_range hi⟩, HN3, HB3⟩
  case round =>
    obtain ⟨k, F, rfl, hk, HF, HR, HN, HB⟩ := hrel
    clear HN3 HB3
    by_cases hlt : k < m
    · have hkp : k < ps.length := by have := HM.out; omega
      obtain ⟨ad, rfl, hak, c0, c1⟩ := (HA.out.keep (Keep.of_below HB.out (fun _ => False)) (fun _ _ h => h)).at_ hkp
      have hpk := HP.out ps[k] (List.getElem_mem hkp)
      have HT : Held (ps.take (k + 1) = ps.take k ++ [(ps[k].1, ps[k].2)]) := ⟨by rw [List.take_succ_eq_append_getElem hkp]⟩
      generalize ps[k].1 = a at *
      generalize ps[k].2 = b at *
      obtain ⟨ha, hb'⟩ := hpk
      have HJ := Held.mk (join_any w1.heap.size B n a b F (wr.alloc (.cells #[.int .i64 (a : Int), .int .i64 (b : Int)] 73)) HF.out ha hb' (by omega) (HN.out.keep ((Keep.refl (fun _ => False) wr).alloc _) (fun h => h)))
      have HBn : Held (Below w1.heap.size w1 (wr.alloc (.cells #[.int .i64 (a : Int), .int .i64 (b : Int)] 73))) := ⟨HB.out.alloc HB.out.size _⟩
      go_wp2_with fail
      refine HJ.out.mono ?_
      rintro e w4 ⟨rfl, F', hf4, hr4, hn4, hk4⟩
      have HF4 := Held.mk hf4
      have HN4 := Held.mk hn4
      have HR4 : Held (∀ i, i < n → root F' i = leasts (ps.take (k + 1)) id i) := ⟨fun i hi => by
        rw [hr4, HT.out, leasts_snoc, HR.out _ ha, HR.out _ hb', HR.out _ hi]⟩
      have HB4 : Held (Below w1.heap.size w1 w4) := ⟨((Keep.of_below HBn.out (fun _ => False)).then hk4 (fun j hj e => by have := HG.out; omega)).to_below (fun _ _ h => h)⟩
      clear hf4 hr4 hn4 hk4 HJ
      go_wp2_with fail
      go_roundw
      case rel => exact ⟨k + 1, F', by go_num, by omega, HF4, HR4, HN4, HB4⟩
      case measure => simp [intOf]; omega
    · obtain rfl : k = m := by omega
      have HQ := Held.mk (roots_any w1.heap.size B n F wr HF.out (by omega) HN.out)
      go_wp2_with fail
      refine HQ.out.mono ?_
      rintro e w5 ⟨C, rfl, hn5, hk5⟩
      go_wp2_with fail
      go_ret2
      refine ⟨C, rfl, ?_, ((Keep.of_below HB.out (fun _ => False)).then hk5 (fun j hj e => by have := HG.out; omega)).to_below (fun _ _ h => h)⟩
      have hC : w1.heap.size ≤ C := Nat.le_trans HB.out.size hn5.ge
      have := own_rebase (base' := w1.heap.size) hn5 (fun k e => by
        have : C = k := by simpa [Value.ownBlock] using e
        omega)
      rwa [Ord.row_ext (f := leasts ps id) (Ord.row_len _ _) (fun i hi => by rw [Ord.row_at, if_pos hi, HR.out i hi, HM.out, List.take_length])] at this
end Grp
end Go.Proofs.YtgmanmbicoofgaaDoor
