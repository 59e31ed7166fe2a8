/- The forest: newForest, root, join, roots. -/
import Derived.Test.YtgmanmbicoofgaaDoorMem
import Derived.Test.YtgmanmbicoofgaaDoorGrp
import Derived.Test.YtgmanmbicoofgaaDoorOrp
import Derived.Laws.OwnMore
namespace Go.Proofs.YtgmanmbicoofgaaDoor
set_option linter.unusedVariables false
set_option linter.unusedSimpArgs false
namespace Grp
open Go.RowKit Mem
def ints (F : List Nat) : List Value := F.map fun k : Nat => .int .i64 (k : Int)
/-- A row of one's own that was made with n numbers: block B. -/
def Nr (w : World) (base B n : Nat) (F : List Nat) : Prop := w.ownsRow base 3 1 (.slice (some ⟨B, 0, none⟩) n n) n (ints F)
section
variable {w w' : World} {base B n : Nat} {F : List Nat}
theorem Nr.len (h : Nr w base B n F) : F.length = n := by have := h.1; simpa [ints] using this
theorem Nr.cell (h : Nr w base B n F) {i : Nat} (hi : i < n) : w.cell? ⟨B, i, none⟩ = some (.int .i64 (F.getD i 0 : Nat)) := by
  have hl := h.len
  have := World.ownsRow.cellAt h i (by simpa using hi)
  rw [this]
  simp [ints, List.getD_eq_getElem?_getD, List.getElem?_eq_getElem (show i < F.length by omega)]
theorem Nr.frozen (h : Nr w base B n F) (i : Nat) : w.frozen? ⟨B, i, none⟩ = false := own_frozen h i
theorem Nr.set_ (h : Nr w base B n F) {i : Nat} (hi : i < n) (k : Nat) : Nr (w.setCell ⟨B, i, none⟩ (.int .i64 (k : Int))) base B n (F.set i k) := by
  have := own_set h hi (.int .i64 (k : Int))
  unfold Nr ints at *
  rw [List.map_set]
  exact this
theorem Nr.keep {S : Nat → Prop} (h : Nr w base B n F) (hk : Keep S w w') (hS : ¬ S B) : Nr w' base B n F := hk.own h (fun k e => by
  have : B = k := by simpa [Value.ownBlock] using e
  subst this
  exact hS)
theorem Nr.lt (h : Nr w base B n F) : B < w.heap.size := own_lt h B rfl
theorem Nr.ge (h : Nr w base B n F) : base ≤ B := own_ge h B rfl
theorem Nr.made (w : World) (n : Nat) (h63 : n ≤ 9223372036854775807) : Nr (w.alloc (.cells (madeCells #[.int .i64 0] n) 3)) w.heap.size w.heap.size n (List.replicate n 0) := by
  refine ⟨by simp [ints], .inr ⟨w.heap.size, n, _, rfl, Nat.le_refl _, heap_alloc_new w _, Nat.le_refl _, by simp only [maxLen]; omega, by rw [size_madeCells]; simp, ?_⟩⟩
  rw [toList_madeCells_one]
  simp [ints]
end
theorem below_set {n : Nat} {w w' : World} {p : Addr} (h : Below n w w') (hp : n ≤ p.block) (u : Value) : Below n w (w'.setCell p u) :=
  ⟨h.os, h.tape, h.output, by simp [World.setCell]; exact h.size, fun k hk => by rw [Below.heap_setCell _ _ _ _ (fun e => by omega)]; exact h.block k hk⟩
theorem underF : Tryd.prog.underlying 79 = some (.slice 3) := by kernel_rfl
theorem underI : Tryd.prog.underlying 23 = some (.slice 3) := by kernel_rfl
theorem infoI : (Tryd.prog.info? 3).map (fun i => (i.zero, i.size, i.bytes)) = some (some (.int .i64 0), 1, 8) := by kernel_rfl
/-- The first k at their own places. -/
def upto (n k : Nat) : List Nat := Ord.row n fun j => if j < k then j else 0
theorem upto_zero (n : Nat) : List.replicate n 0 = upto n 0 := Ord.row_ext (by simp) (fun i hi => by simp [hi])
theorem upto_set (n k : Nat) (h : k < n) : (upto n k).set k k = upto n (k + 1) := by
  refine Ord.row_set h (by rw [if_pos (by omega)]) (fun y _ hy => ?_)
  by_cases h1 : y < k
  · rw [if_pos h1, if_pos (by omega)]
  · rw [if_neg h1, if_neg (by omega)]
theorem upto_all (n : Nat) : upto n n = List.range n := (Ord.row_ext (by simp) (fun i hi => by simp [hi])).symm
set_option maxHeartbeats 4000000 in
set_option maxRecDepth 100000 in
theorem new_any (n : Nat) (w : World) (hn : n ≤ 1000000) : Calls Tryd.prog 44 #[.int .i64 n] w fun e w' => ∃ B, e = .returned (.slice (some ⟨B, 0, none⟩) n n) ∧ B = w.heap.size ∧ Nr w' w.heap.size B n (List.range n) ∧ Below w.heap.size w w' := by
  have hmk := run_make_row' (P := Tryd.prog) 79 3 (.int .i64 0) 8 underF infoI rfl .i64 .i64 n (by omega) (by omega)
  have HN : Held (Nr (w.alloc (.cells (madeCells #[.int .i64 0] n) 3)) w.heap.size w.heap.size n (upto n 0)) := ⟨by rw [← upto_zero]; exact Nr.made w n (by omega)⟩
  have HB : Held (Below w.heap.size w (w.alloc (.cells (madeCells #[.int .i64 0] n) 3))) := ⟨(Below.refl _ _).alloc (Nat.le_refl _) _⟩
  go_enter Tryd.func44, Tryd.ntmps44
  go_wp2
  clear hmk
  generalize w.alloc (.cells (madeCells #[.int .i64 0] n) 3) = w1 at *
  generalize hB : w.heap.size = B at *
  go_loopw [8, 4] (fun i _ wr => ∃ k : Nat, i = .int .i64 k ∧ k ≤ n ∧ Held (Nr wr B B n (upto n k)) ∧ Held (Below B w wr)) (fun i _ _ => n - (intOf i).toNat)
  case atStart => exact ⟨0, rfl, Nat.zero_le _, HN, HB⟩
  case round =>
    obtain ⟨k, rfl, hk, HNk, HBk⟩ := hrel
    by_cases hlt : k < n
    · have hfr := HNk.out.frozen k
      have hce := HNk.out.cell hlt
      have HNn : Held (Nr (wr.setCell ⟨B, k, none⟩ (.int .i64 (k : Int))) B B n (upto n (k + 1))) := ⟨by rw [← upto_set n k hlt]; exact HNk.out.set_ hlt k⟩
      have HBn : Held (Below B w (wr.setCell ⟨B, k, none⟩ (.int .i64 (k : Int)))) := ⟨below_set HBk.out (Nat.le_refl _) _⟩
      go_wp2
      go_roundw
      case rel => exact ⟨k + 1, by go_num, by omega, HNn, HBn⟩
      case measure => simp [intOf]; omega
    · obtain rfl : k = n := by omega
      go_wp2
      go_ret
      subst hB
      exact ⟨_, rfl, rfl, by rw [← upto_all]; exact HNk.out, HBk.out⟩
set_option maxHeartbeats 4000000 in
set_option maxRecDepth 100000 in
theorem root_any (base B n x : Nat) (F : List Nat) (w : World) (hF : Frst F) (hx : x < n) (hn : n ≤ 1000000) (h : Nr w base B n F) :
    Calls Tryd.prog 72 #[.slice (some ⟨B, 0, none⟩) n n, .int .i64 x] w fun e w' => e = .returned (.int .i64 (root F x : Nat)) ∧ ∃ F', Same F F' ∧ Nr w' base B n F' ∧ Keep (fun k => k = B) w w' := by
  have HF := Held.mk hF
  have HN := Held.mk h
  clear h hF
  go_enter Tryd.func72, Tryd.ntmps72
  go_wp2
  go_loopw [1] (fun xv wr => ∃ (y : Nat) (F' : List Nat), xv = .int .i64 y ∧ y < n ∧ Held (Same F F') ∧ Held (root F y = root F x) ∧ Held (Nr wr base B n F') ∧ Held (Keep (fun k => k = B) w wr)) (fun xv _ => (intOf xv).toNat)
  case atStart => exact ⟨x, F, rfl, hx, ⟨Same.refl HF.out⟩, ⟨rfl⟩, HN, ⟨Keep.refl _ _⟩⟩
  case round =>
    obtain ⟨y, F', rfl, hy, HS, HR, HNk, HKk⟩ := hrel
    have hc1 := HNk.out.cell hy
    have hle := HS.out.frst y
    by_cases heq : F'.getD y 0 = y
    · have HE : Held (root F y = y) := ⟨by rw [← HS.out.root y]; exact root_ge (by omega)⟩
      rw [heq] at hc1
      go_wp2
      go_ret
      exact ⟨congrArg (fun k : Nat => Ending.returned (Value.int .i64 (k : Int))) (by rw [← HR.out, HE.out]), F', HS.out, HNk.out, HKk.out⟩
    · have hz : F'.getD y 0 < n := by omega
      have hc2 := HNk.out.cell hz
      have hfr := HNk.out.frozen y
      have HNn := Held.mk (HNk.out.set_ hy (F'.getD (F'.getD y 0) 0))
      have hc3 := HNn.out.cell hy
      rw [getD_set, if_pos ⟨rfl, by rw [HNk.out.len]; exact hy⟩] at hc3
      have HS2 : Held (Same F (F'.set y (F'.getD (F'.getD y 0) 0))) := ⟨HS.out.trans (halve HS.out.frst y)⟩
      have HR2 : Held (root F (F'.getD (F'.getD y 0) 0) = root F x) := ⟨by rw [← HR.out, ← HS.out.root, ← HS.out.root y, root_step HS.out.frst, root_step HS.out.frst]⟩
      have HK2 : Held (Keep (fun k => k = B) w (wr.setCell ⟨B, y, none⟩ (.int .i64 (F'.getD (F'.getD y 0) 0 : Nat)))) := ⟨HKk.out.setCell (p := ⟨B, y, none⟩) (fun _ => rfl) _⟩
      have hle2 := HS.out.frst (F'.getD y 0)
      generalize F'.getD (F'.getD y 0) 0 = g at *
      generalize F'.getD y 0 = p at *
      have hne : ¬ ((p : Int) = y) := by omega
      go_wp2
      go_roundw
      case rel => exact ⟨g, _, rfl, by omega, HS2, HR2, HNn, HK2⟩
      case measure => simp [intOf]; omega
set_option maxHeartbeats 4000000 in
set_option maxRecDepth 100000 in
theorem join_any (base B n a b : Nat) (F : List Nat) (w : World) (hF : Frst F) (ha : a < n) (hb : b < n) (hn : n ≤ 1000000) (h : Nr w base B n F) :
    Calls Tryd.prog 45 #[.slice (some ⟨B, 0, none⟩) n n, .int .i64 a, .int .i64 b] w fun e w' => e = .returned (.tuple #[]) ∧ ∃ F', Frst F' ∧ (∀ i, root F' i = jn (root F a) (root F b) (root F i)) ∧ Nr w' base B n F' ∧ Keep (fun k => k = B) w w' := by
  have H1 := Held.mk (root_any base B n a F w hF ha hn h)
  clear h
  go_enter Tryd.func45, Tryd.ntmps45
  go_wp2_with fail
  refine H1.out.mono ?_
  rintro e w1 ⟨rfl, F1, hs1, hn1, hk1⟩
  have H2 := Held.mk (root_any base B n b F1 w1 hs1.frst hb hn hn1)
  have HK1 := Held.mk hk1
  have HS1 := Held.mk hs1
  clear hs1 hn1 hk1
  go_wp2_with fail
  refine H2.out.mono ?_
  rintro e w2 ⟨rfl, F2, hs2, hn2, hk2⟩
  have hra : root F a < n := Nat.lt_of_le_of_lt (root_le _ _) ha
  have hrb : root F1 b < n := Nat.lt_of_le_of_lt (root_le _ _) hb
  have HS : Held (Same F F2) := ⟨HS1.out.trans hs2⟩
  have hrr : root F1 b = root F b := HS1.out.root b
  rw [hrr] at hrb ⊢
  have HJ := Held.mk (joined_max HS.out.frst (a := root F a) (b := root F b) (by have := root_fix HS.out.frst a; rwa [HS.out.root] at this) (by have := root_fix HS.out.frst b; rwa [HS.out.root] at this) (by rw [hn2.len]; exact hra) (by rw [hn2.len]; exact hrb))
  have HQ : Held (∀ i, root F2 i = root F i) := ⟨HS.out.root⟩
  have HK2 : Held (Keep (fun k => k = B) w w2) := ⟨HK1.out.trans hk2⟩
  have HN2 := Held.mk hn2
  clear hs2 hn2 hk2 hrr
  generalize hga : root F a = ra at *
  generalize hgb : root F b = rb at *
  have Ha := Held.mk hga
  have Hb := Held.mk hgb
  clear hga hgb
  have key : ∀ M m : Nat, max ra rb = M → min ra rb = m → M < n → Held (Frst (F2.set M m) ∧ (∀ i, root (F2.set M m) i = jn ra rb (root F2 i)) ∧ Nr (w2.setCell ⟨B, M, none⟩ (.int .i64 (m : Int))) base B n (F2.set M m) ∧ Keep (fun k => k = B) w (w2.setCell ⟨B, M, none⟩ (.int .i64 (m : Int)))) := by
    rintro M m rfl rfl hM
    exact ⟨HJ.out.1, HJ.out.2, HN2.out.set_ hM _, HK2.out.setCell (p := ⟨B, _, none⟩) (fun _ => rfl) _⟩
  rcases Nat.lt_trichotomy ra rb with h | h | h
  · have HX := key rb ra (by omega) (by omega) hrb
    have hfr := HN2.out.frozen rb
    have hce := HN2.out.cell hrb
    have h1 : (ra : Int) < rb := by omega
    have h2 : ¬ (rb : Int) < ra := by omega
    clear key HJ
    go_wp2_with fail
    go_end0
    exact ⟨rfl, _, HX.out.1, fun i => by rw [HX.out.2.1, HQ.out, Ha.out, Hb.out], HX.out.2.2.1, HX.out.2.2.2⟩
  · subst h
    have HX := key ra ra (by omega) (by omega) hrb
    have hfr := HN2.out.frozen ra
    have hce := HN2.out.cell hrb
    clear key HJ
    go_wp2_with fail
    go_end0
    exact ⟨rfl, _, HX.out.1, fun i => by rw [HX.out.2.1, HQ.out, Ha.out, Hb.out], HX.out.2.2.1, HX.out.2.2.2⟩
  · have HX := key ra rb (by omega) (by omega) hra
    have hfr := HN2.out.frozen ra
    have hce := HN2.out.cell hra
    have h1 : (rb : Int) < ra := by omega
    have h2 : ¬ (ra : Int) < rb := by omega
    clear key HJ
    go_wp2_with fail
    go_end0
    exact ⟨rfl, _, HX.out.1, fun i => by rw [HX.out.2.1, HQ.out, Ha.out, Hb.out], HX.out.2.2.1, HX.out.2.2.2⟩
set_option maxHeartbeats 4000000 in
set_option maxRecDepth 100000 in
theorem roots_any (base B n : Nat) (F : List Nat) (w : World) (hF : Frst F) (hn : n ≤ 1000000) (h : Nr w base B n F) :
    Calls Tryd.prog 46 #[.slice (some ⟨B, 0, none⟩) n n] w fun e w' => ∃ C, e = .returned (.slice (some ⟨C, 0, none⟩) n n) ∧ Nr w' w.heap.size C n (Ord.row n fun i => root F i) ∧ Keep (fun k => k = B) w w' := by
  have hmk := run_make_row' (P := Tryd.prog) 23 3 (.int .i64 0) 8 underI infoI rfl .i64 .i64 n (by omega) (by omega)
  have hz : List.replicate n 0 = Ord.row n (fun j => if j < 0 then root F j else 0) := Ord.row_ext (by simp) (fun i hi => by simp [hi])
  have HN : Held (Nr (w.alloc (.cells (madeCells #[.int .i64 0] n) 3)) w.heap.size w.heap.size n (Ord.row n (fun j => if j < 0 then root F j else 0))) := ⟨by rw [← hz]; exact Nr.made w n (by omega)⟩
  have HF1 : Held (Nr (w.alloc (.cells (madeCells #[.int .i64 0] n) 3)) base B n F) := ⟨h.keep ((Keep.refl (fun _ => False) w).alloc _) (fun h => h)⟩
  have HK : Held (Keep (fun k => k = B) w (w.alloc (.cells (madeCells #[.int .i64 0] n) 3))) := ⟨(Keep.refl _ w).alloc _⟩
  have HB := Held.mk h.lt
  have HS0 := Held.mk (Same.refl hF)
  clear h hF hz
  go_enter Tryd.func46, Tryd.ntmps46
  go_wp2_with fail
  clear hmk
  generalize w.alloc (.cells (madeCells #[.int .i64 0] n) 3) = w1 at *
  generalize hC : w.heap.size = C at *
  go_loopw [10, 4] (fun i _ wr => ∃ (k : Nat) (F' : List Nat), i = .int .i64 k ∧ k ≤ n ∧ Held (Same F F') ∧ Held (Nr wr base B n F') ∧ Held (Nr wr C C n (Ord.row n (fun j => if j < k then root F j else 0))) ∧ Held (Keep (fun k => k = B) w wr)) (fun i _ _ => n - (intOf i).toNat)
  case atStart => exact ⟨0, F, rfl, Nat.zero_le _, HS0, HF1, HN, HK⟩
  case round =>
    obtain ⟨k, F', rfl, hk, HS, HFk, HNk, HKk⟩ := hrel
    by_cases hlt : k < n
    · have HR := Held.mk (root_any base B n k F' wr HS.out.frst hlt hn HFk.out)
      go_wp2_with fail
      refine HR.out.mono ?_
      rintro e w2 ⟨rfl, F2, hs2, hn2, hk2⟩
      have HS2 : Held (Same F F2) := ⟨HS.out.trans hs2⟩
      have hNk2 := HNk.out.keep hk2 (by have := HB.out; omega)
      have hfr := hNk2.frozen k
      have hce := hNk2.cell hlt
      rw [HS.out.root]
      have HNn : Held (Nr (w2.setCell ⟨C, k, none⟩ (.int .i64 (root F k : Nat))) C C n (Ord.row n (fun j => if j < k + 1 then root F j else 0))) := ⟨by
        have := hNk2.set_ hlt (root F k)
        rwa [Ord.row_set hlt (g := fun j => if j < k + 1 then root F j else 0) (by simp) (fun y _ hy => by
          by_cases h1 : y < k
          · rw [if_pos h1, if_pos (by omega)]
          · rw [if_neg h1, if_neg (by omega)])] at this⟩
      have HFn : Held (Nr (w2.setCell ⟨C, k, none⟩ (.int .i64 (root F k : Nat))) base B n F2) := ⟨hn2.keep ((Keep.refl (fun j => j = C) w2).setCell (p := ⟨C, k, none⟩) (fun _ => rfl) _) (by have := HB.out; omega)⟩
      have HKn : Held (Keep (fun k => k = B) w (w2.setCell ⟨C, k, none⟩ (.int .i64 (root F k : Nat)))) := ⟨(HKk.out.trans hk2).setCell (p := ⟨C, k, none⟩) (fun hlt => by rw [hC] at hlt; exact absurd hlt (Nat.lt_irrefl _)) _⟩
      clear hs2 hNk2 hn2 hk2
      generalize root F k = r at *
      go_wp2_with fail
      go_roundw
      case rel => exact ⟨k + 1, F2, by go_num, by omega, HS2, HFn, HNn, HKn⟩
      case measure => simp [intOf]; omega
    · obtain rfl : k = n := by omega
      go_wp2_with fail
      go_ret
      subst hC
      refine ⟨_, rfl, ?_, HKk.out⟩
      have := HNk.out
      rwa [Ord.row_ext (f := fun i => root F i) (Ord.row_len _ _) (fun i hi => by rw [Ord.row_at, if_pos hi, if_pos hi])] at this
end Grp
end Go.Proofs.YtgmanmbicoofgaaDoor
