/- The document's order: the walk. -/
import Derived.Test.YtgmanmbicoofgaaDoorOrw
namespace Go.Proofs.YtgmanmbicoofgaaDoor
set_option linter.unusedVariables false
set_option linter.unusedSimpArgs false
namespace Ord
open Go.RowKit Mem Grp Go.Proofs.YtgmanmbicoofgaaDoorW.PrintLast
def slen : Value → Nat
  | .slice _ k _ => k
  | _ => 0
/-- What is answered where it must be whole. -/
def whole (n : Nat) (o : List Nat) : List Nat := if o.length = n then o else []
theorem beh_cons (e : Nat × Nat) (E : List (Nat × Nat)) (b : Nat) : beh (e :: E) b = if e.1 = b then e.2 :: beh E b else beh E b := by
  unfold beh
  by_cases h : e.1 = b
  · simp [h]
  · simp [h]
set_option maxHeartbeats 4000000 in
set_option maxRecDepth 100000 in
theorem rorder_any (n : Nat) (A Ap : Option Addr) (m c cp : Nat) (ps : List (Nat × Nat)) (prs : List Int) (ok okp : Nat → Prop) (w : World) (hn : n ≤ 4096) (hm : m = ps.length) (hb : m ≤ 17592186044416) (h : RdP w ok A ps) (hp : ∀ p ∈ ps, p.1 < n ∧ p.2 < n)
    (hr : RdN w okp .i64 Ap n prs) (hok : ∀ k, ok k → k < w.heap.size) (hokp : ∀ k, okp k → k < w.heap.size) :
    Calls Tryd.prog 50 #[.int .i64 n, .slice A m c, .slice Ap n cp] w fun e w' => ∃ v, e = .returned (.tuple #[v, .bool (decide ((ord ps (fun i => prs.getD i 0) n).length = n))]) ∧ w'.ownsRow w.heap.size 3 1 v (whole n (ord ps (fun i => prs.getD i 0) n)).length (ints (whole n (ord ps (fun i => prs.getD i 0) n))) ∧ Below w.heap.size w w' := by
  have hmk := run_make_row' (P := Tryd.prog) 23 3 (.int .i64 0) 8 underI infoI rfl .i64 .i64 n (by omega) (by omega)
  have hmk3 := run_make_row' (P := Tryd.prog) 118 4 (.bool false) 1 underB infoB rfl .i64 .i64 n (by omega) (by omega)
  have hz : List.replicate n 0 = row n (cnt (ps.take 0) []) := row_ext (by simp) (fun i hi => by simp [hi, cnt])
  have HW0 : Held (Nr (w.alloc (.cells (madeCells #[.int .i64 0] n) 3)) w.heap.size w.heap.size n (row n (cnt (ps.take 0) []))) := ⟨by rw [← hz]; exact Nr.made w n (by omega)⟩
  have HA := Held.mk h
  have HP := Held.mk hp
  have HM := Held.mk hm
  have HR := Held.mk hr
  have HOk := Held.mk hok
  have HOkp := Held.mk hokp
  clear h hp hm hr hz hok hokp
  have HD0 : Held (Rw ((w.alloc (.cells (madeCells #[.int .i64 0] n) 3)).alloc (.cells (madeCells #[.bool false] n) 4)) (w.heap.size + 1) 4 (w.heap.size + 1) n (row n fun i => .bool (([] : List Nat).contains i))) := ⟨by
    have := Rw.made (w.alloc (.cells (madeCells #[.int .i64 0] n) 3)) 4 n (.bool false) (by omega)
    simpa using this⟩
  have HW1 : Held (Nr ((w.alloc (.cells (madeCells #[.int .i64 0] n) 3)).alloc (.cells (madeCells #[.bool false] n) 4)) w.heap.size w.heap.size n (row n (cnt (ps.take 0) []))) := ⟨HW0.out.keep ((Keep.refl (fun _ => False) _).alloc _) (fun h => h)⟩
  have HB1 : Held (Below w.heap.size w ((w.alloc (.cells (madeCells #[.int .i64 0] n) 3)).alloc (.cells (madeCells #[.bool false] n) 4))) := ⟨((Below.refl _ _).alloc (Nat.le_refl _) _).alloc (by simp) _⟩
  have HS1 : Held (w.heap.size + 2 ≤ ((w.alloc (.cells (madeCells #[.int .i64 0] n) 3)).alloc (.cells (madeCells #[.bool false] n) 4)).heap.size) := ⟨by simp⟩
  go_enter Tryd.func50, Tryd.ntmps50
  go_wp2_with fail
  clear hmk hmk3 HW0
  generalize (w.alloc (.cells (madeCells #[.int .i64 0] n) 3)).alloc (.cells (madeCells #[.bool false] n) 4) = w1 at *
  go_loopw [10] (fun i wr => ∃ k : Nat, i = .int .i64 k ∧ k ≤ m ∧ Held (Nr wr w.heap.size w.heap.size n (row n (cnt (ps.take k) []))) ∧ Held (Rw wr (w.heap.size + 1) 4 (w.heap.size + 1) n (row n fun i => .bool (([] : List Nat).contains i))) ∧ Held (Below w.heap.size w wr) ∧ Held (w.heap.size + 2 ≤ wr.heap.size)) (fun i _ => m - (intOf i).toNat)
  case atStart => exact ⟨0, rfl, Nat.zero_le _, HW1, HD0, HB1, HS1⟩
  case round =>
    obtain ⟨k, rfl, hk, HWk, HDk, HBk, HSk⟩ := hrel
    clear HW1 HD0 HB1 HS1
    by_cases hlt : k < m
    · have hkp : k < ps.length := by have := HM.out; omega
      obtain ⟨ad, rfl, hak, c0, c1⟩ := (HA.out.keep (Keep.of_below HBk.out (fun _ => False)) (fun _ _ h => h)).at_ hkp
      have hpk := HP.out ps[k] (List.getElem_mem hkp)
      have HT : Held (ps.take (k + 1) = ps.take k ++ [(ps[k].1, ps[k].2)]) := ⟨by rw [List.take_succ_eq_append_getElem hkp]⟩
      generalize ps[k].1 = a at *
      generalize ps[k].2 = b at *
      obtain ⟨ha, hb'⟩ := hpk
      have hcl : cnt (ps.take k) [] b ≤ m := by
        have := cnt_le (ps.take k) [] b
        have := List.length_take_le k ps
        rw [HM.out]
        omega
      have cw : wr.cell? ⟨w.heap.size, b, none⟩ = some (.int .i64 (cnt (ps.take k) [] b : Nat)) := by
        have := HWk.out.cell hb'
        rwa [List.getD_eq_getElem?_getD, row_at, if_pos hb'] at this
      have fw : wr.frozen? ⟨w.heap.size, b, none⟩ = false := HWk.out.frozen b
      have HHl := HOk.out _ hak
      have hbne : (ad.add (k * 2)).block ≠ w.heap.size := by rw [block_of_add]; omega
      generalize hc : cnt (ps.take k) [] b = cb at *
      have HC := Held.mk hc
      clear hc
      have hcI : (cb : Int) ≤ 17592186044416 := by omega
      have hw64 : wrap64 ((cb : Int) + 1) = (cb : Int) + 1 := IntWalk.wrap64_in _ ⟨by omega, by omega⟩
      have HWn : Held (Nr (wr.setCell ⟨w.heap.size, b, none⟩ (.int .i64 ((cb : Int) + 1))).drew w.heap.size w.heap.size n (row n (cnt (ps.take (k + 1)) []))) := ⟨by
        refine Nr.keep ?_ ((Keep.refl (fun _ => False) _).drew) (fun h => h)
        have := HWk.out.set_ hb' (cb + 1)
        rwa [row_set hb' (g := cnt (ps.take (k + 1)) []) (by rw [HT.out, cnt_snoc, HC.out, if_pos rfl]) (fun y _ hy => by rw [HT.out, cnt_snoc, if_neg (fun e => hy e.symm)]; rfl)] at this⟩
      have hkA : Keep (fun j => j = w.heap.size) wr (wr.setCell ⟨w.heap.size, b, none⟩ (.int .i64 ((cb : Int) + 1))).drew := ((Keep.refl (fun j => j = w.heap.size) wr).setCell (p := ⟨w.heap.size, b, none⟩) (fun _ => rfl) _).drew
      have HDn := Held.mk (HDk.out.keep hkA (by omega))
      have HBn : Held (Below w.heap.size w (wr.setCell ⟨w.heap.size, b, none⟩ (.int .i64 ((cb : Int) + 1))).drew) := ⟨((Keep.of_below HBk.out (fun _ => False)).then hkA (fun j hj e => by omega)).to_below (fun _ _ h => h)⟩
      have HSn : Held (w.heap.size + 2 ≤ (wr.setCell ⟨w.heap.size, b, none⟩ (.int .i64 ((cb : Int) + 1))).drew.heap.size) := ⟨Nat.le_trans HSk.out hkA.size⟩
      clear hkA HWk HDk HBk HSk
      go_wp2_with fail
      refine start_ (n := 17) (S := fun w' => w'.cell? ⟨(ad.add (k * 2)).block, (ad.add (k * 2)).off + 1, none⟩ = some (.int .i64 (b : Int)) ∧ w'.cell? ⟨w.heap.size, b, none⟩ = some (.int .i64 (cb : Int))) (ds := [16]) #[false, false, false, false, false, false, false, false, false, false, false, false, false, false, false, false, false] (by kernel_rfl) rfl rfl ⟨c1, cw⟩ (fun hHeld => ?_)
      refine pure_ (i := 0) (N := some 25) (v := ?_) (a' := ?_) #[true, false, false, false, false, false, false, false, false, false, false, false, false, false, false, false, false] rfl rfl (by kernel_rfl) (fun _ _ _ h => h) (Or.inl ⟨by rfl, ?_⟩) ?_ ?_
      rotate_left
      · intro w'
        go_simp
        with_reducible rfl
      rotate_left
      · simp only [Act.put, List.setIfInBounds_toArray, List.set_cons_zero, List.set_cons_succ, i64_w, i32_w]
        rfl
      refine pure_ (i := 1) (N := some 26) (v := ?_) (a' := ?_) #[true, true, false, false, false, false, false, false, false, false, false, false, false, false, false, false, false] rfl rfl (by kernel_rfl) (fun _ _ _ h => h) (Or.inl ⟨by rfl, ?_⟩) ?_ ?_
      rotate_left
      · intro w'
        go_simp
        with_reducible rfl
      rotate_left
      · simp only [Act.put, List.setIfInBounds_toArray, List.set_cons_zero, List.set_cons_succ, i64_w, i32_w]
        rfl
      refine pure_ (i := 2) (N := some 27) (v := ?_) (a' := ?_) #[true, true, true, false, false, false, false, false, false, false, false, false, false, false, false, false, false] rfl rfl (by kernel_rfl) (fun _ _ _ h => h) (Or.inl ⟨by rfl, ?_⟩) ?_ ?_
      rotate_left
      · intro w'
        go_simp
        with_reducible rfl
      rotate_left
      · simp only [Act.put, List.setIfInBounds_toArray, List.set_cons_zero, List.set_cons_succ, i64_w, i32_w]
        rfl
      refine pure_ (i := 3) (N := some 28) (v := ?_) (a' := ?_) #[true, true, true, true, false, false, false, false, false, false, false, false, false, false, false, false, false] rfl rfl (by kernel_rfl) (fun _ _ _ h => h) (Or.inl ⟨by rfl, ?_⟩) ?_ ?_
      rotate_left
      · intro w'
        go_simp
        with_reducible rfl
      rotate_left
      · simp only [Act.put, List.setIfInBounds_toArray, List.set_cons_zero, List.set_cons_succ, i64_w, i32_w]
        rfl
      refine pure_ (i := 4) (N := some 29) (v := ?_) (a' := ?_) #[true, true, true, true, true, false, false, false, false, false, false, false, false, false, false, false, false] rfl rfl (by kernel_rfl) (fun _ _ _ h => h) (Or.inl ⟨by rfl, ?_⟩) ?_ ?_
      rotate_left
      · intro w'
        go_simp
        with_reducible rfl
      rotate_left
      · simp only [Act.put, List.setIfInBounds_toArray, List.set_cons_zero, List.set_cons_succ, i64_w, i32_w]
        rfl
      refine pure_ (i := 6) (N := some 31) (v := ?_) (a' := ?_) #[true, true, true, true, true, false, true, false, false, false, false, false, false, false, false, false, false] rfl rfl (by kernel_rfl) (fun _ _ _ h => h) (Or.inl ⟨by rfl, ?_⟩) ?_ ?_
      rotate_left
      · intro w'
        go_simp
        with_reducible rfl
      rotate_left
      · simp only [Act.put, List.setIfInBounds_toArray, List.set_cons_zero, List.set_cons_succ, i64_w, i32_w]
        rfl
      refine pure_ (i := 7) (N := some 32) (v := ?_) (a' := ?_) #[true, true, true, true, true, false, true, true, false, false, false, false, false, false, false, false, false] rfl rfl (by kernel_rfl) (fun _ _ _ h => h) (Or.inl ⟨by rfl, ?_⟩) ?_ ?_
      rotate_left
      · intro w'
        go_simp
        with_reducible rfl
      rotate_left
      · simp only [Act.put, List.setIfInBounds_toArray, List.set_cons_zero, List.set_cons_succ, i64_w, i32_w]
        rfl
      refine pure_ (i := 8) (N := some 33) (v := ?_) (a' := ?_) #[true, true, true, true, true, false, true, true, true, false, false, false, false, false, false, false, false] rfl rfl (by kernel_rfl) (fun _ _ _ h => h) (Or.inl ⟨by rfl, ?_⟩) ?_ ?_
      rotate_left
      · intro w'
        go_simp
        with_reducible rfl
      rotate_left
      · simp only [Act.put, List.setIfInBounds_toArray, List.set_cons_zero, List.set_cons_succ, i64_w, i32_w]
        rfl
      refine pure_ (i := 9) (N := some 34) (v := ?_) (a' := ?_) #[true, true, true, true, true, false, true, true, true, true, false, false, false, false, false, false, false] rfl rfl (by kernel_rfl) (fun _ _ _ h => h) (Or.inl ⟨by rfl, ?_⟩) ?_ ?_
      rotate_left
      · intro w'
        go_simp
        with_reducible rfl
      rotate_left
      · simp only [Act.put, List.setIfInBounds_toArray, List.set_cons_zero, List.set_cons_succ, i64_w, i32_w]
        rfl
      refine pure_ (i := 10) (N := some 35) (v := ?_) (a' := ?_) #[true, true, true, true, true, false, true, true, true, true, true, false, false, false, false, false, false] rfl rfl (by kernel_rfl) (fun _ _ _ h => h) (Or.inl ⟨by rfl, ?_⟩) ?_ ?_
      rotate_left
      · intro w'
        go_simp
        with_reducible rfl
      rotate_left
      · simp only [Act.put, List.setIfInBounds_toArray, List.set_cons_zero, List.set_cons_succ, i64_w, i32_w]
        rfl
      refine take_ (i := 5) (N := some 30) (v := ?_) (a' := ?_) #[true, true, true, true, true, true, true, true, true, true, true, false, false, false, false, false, false] rfl rfl (by kernel_rfl) (fun _ _ _ h => h) (Or.inl ⟨by rfl, ?_⟩) hHeld ?_ ?_
      rotate_left
      · rintro w' ⟨s0, s1⟩
        go_simp
        with_reducible rfl
      rotate_left
      · simp only [Act.put, List.setIfInBounds_toArray, List.set_cons_zero, List.set_cons_succ, i64_w, i32_w]
        rfl
      refine take_ (i := 11) (N := some 36) (v := ?_) (a' := ?_) #[true, true, true, true, true, true, true, true, true, true, true, true, false, false, false, false, false] rfl rfl (by kernel_rfl) (fun _ _ _ h => h) (Or.inl ⟨by rfl, ?_⟩) hHeld ?_ ?_
      rotate_left
      · rintro w' ⟨s0, s1⟩
        go_simp
        with_reducible rfl
      rotate_left
      · simp only [Act.put, List.setIfInBounds_toArray, List.set_cons_zero, List.set_cons_succ, i64_w, i32_w]
        rfl
      refine pure_ (i := 12) (N := some 37) (v := ?_) (a' := ?_) #[true, true, true, true, true, true, true, true, true, true, true, true, true, false, false, false, false] rfl rfl (by kernel_rfl) (fun _ _ _ h => h) (Or.inl ⟨by rfl, ?_⟩) ?_ ?_
      rotate_left
      · intro w'
        go_simp
        with_reducible rfl
      rotate_left
      · simp only [Act.put, List.setIfInBounds_toArray, List.set_cons_zero, List.set_cons_succ, i64_w, i32_w]
        rfl
      refine take_ (i := 13) (N := some 38) (v := ?_) (a' := ?_) #[true, true, true, true, true, true, true, true, true, true, true, true, true, true, false, false, false] rfl rfl (by kernel_rfl) (fun _ _ _ h => h) (Or.inl ⟨by rfl, ?_⟩) hHeld ?_ ?_
      rotate_left
      · rintro w' ⟨s0, s1⟩
        go_simp
        with_reducible rfl
      rotate_left
      · simp only [Act.put, List.setIfInBounds_toArray, List.set_cons_zero, List.set_cons_succ, i64_w, i32_w]
        rfl
      refine pure_ (i := 14) (N := some 39) (v := ?_) (a' := ?_) #[true, true, true, true, true, true, true, true, true, true, true, true, true, true, true, false, false] rfl rfl (by kernel_rfl) (fun _ _ _ h => h) (Or.inl ⟨by rfl, ?_⟩) ?_ ?_
      rotate_left
      · intro w'
        go_simp
        with_reducible rfl
      rotate_left
      · simp only [Act.put, List.setIfInBounds_toArray, List.set_cons_zero, List.set_cons_succ, i64_w, i32_w]
        rfl
      refine pure_ (i := 15) (N := some 40) (v := ?_) (a' := ?_) #[true, true, true, true, true, true, true, true, true, true, true, true, true, true, true, true, false] rfl rfl (by kernel_rfl) (fun _ _ _ h => h) (Or.inl ⟨by rfl, ?_⟩) ?_ ?_
      rotate_left
      · intro w'
        go_simp
        with_reducible rfl
      rotate_left
      · simp only [Act.put, List.setIfInBounds_toArray, List.set_cons_zero, List.set_cons_succ, i64_w, i32_w]
        rfl
      refine last_ (i := 16) (N := none) #[true, true, true, true, true, true, true, true, true, true, true, true, true, true, true, true, true] rfl rfl (by kernel_rfl) (by decide) (fun K hK => ?_)
      refine skip_ (w1 := ?_) (by rfl) rfl ?_ ?_
      rotate_left
      · go_simp
        rfl
      refine hK.out _ _ ?_
      clear hK K
      refine done_ (by kernel_rfl) ?_
      go_wp2_with fail
      go_roundw
      case rel => exact ⟨k + 1, by go_num, by omega, HWn, HDn, HBn, HSn⟩
      case measure => simp [intOf]; omega
    · obtain rfl : k = m := by omega
      have HT : Held (ps.take k = ps) := ⟨by rw [HM.out, List.take_length]⟩
      rw [HT.out] at HWk
      clear HT
      generalize wr = wm at *
      generalize hDD : w.heap.size + 1 = D at *
      have hDs : w.heap.size + 1 = D := hDD
      go_wp2_with fail
      go_loopw [11] (fun v W => ∃ (k : Nat) (o : List Nat), k ≤ n ∧ Held (o.length = k ∧ runs ps (fun i => prs.getD i 0) n (n - k) o = ord ps (fun i => prs.getD i 0) n) ∧ Held (W.ownsRow (w.heap.size + 2) 3 1 v k (ints o)) ∧ Held (Nr W w.heap.size w.heap.size n (row n (cnt ps o))) ∧ Held (Rw W D 4 D n (row n fun i => .bool (o.contains i))) ∧ Held (Below w.heap.size w W) ∧ Held (w.heap.size + 2 ≤ W.heap.size)) (fun v _ => n - slen v)
      case atStart => exact ⟨0, [], Nat.zero_le _, ⟨rfl, rfl⟩, ⟨own_nil _ _ _ _⟩, HWk, HDk, HBk, HSk⟩
      case round =>
        obtain ⟨k2, o, hk2, HO2, HOk2, HWk2, HDk2, HBk2, HSk2⟩ := hrel
        clear HWk HDk HBk HSk
        generalize wr = W at *
        obtain ⟨Ao, co, rfl, hco⟩ := own_slice_ HOk2.out
        by_cases hlt2 : k2 < n
        · have HPr : Held (RdN W okp .i64 Ap n prs) := ⟨RdN.keep HR.out (Keep.of_below HBk2.out (fun _ => False)) (fun _ _ h => h)⟩
          have HDk := HDk2
          have HWk := HWk2
          go_wp2_with fail
          go_loopw [12, 13] (fun bv i W' => ∃ (q j : Nat), i = .int .i64 q ∧ q ≤ n ∧ bv = .int .i64 (bst (may ps o) (fun i => prs.getD i 0) q) ∧ W' = W.drewN j) (fun bv i _ => n - (intOf i).toNat)
          case atStart => exact ⟨0, 0, rfl, Nat.zero_le _, rfl, rfl⟩
          case round =>
            obtain ⟨q, j, rfl, hq, rfl, rfl⟩ := hrel
            by_cases hqn : q < n
            · have hcd : W.cell? ⟨D, q, none⟩ = some (.bool (o.contains q)) := by
                have := HDk.out.cell hqn
                rwa [row_at, if_pos hqn] at this
              have hcw : W.cell? ⟨w.heap.size, q, none⟩ = some (.int .i64 (cnt ps o q : Nat)) := by
                have := HWk.out.cell hqn
                rwa [List.getD_eq_getElem?_getD, row_at, if_pos hqn] at this
              have hnI : (n : Int) ≤ 4096 := by omega
              cases hct : o.contains q with
              | true =>
                have HM : Held (bst (may ps o) (fun i => prs.getD i 0) (q + 1) = bst (may ps o) (fun i => prs.getD i 0) q) := ⟨bst_no1 (by simp [may] at hct ⊢; simp [hct])⟩
                rw [hct] at hcd
                clear hct
                generalize hbb : bst (may ps o) (fun i => prs.getD i 0) q = bb at *
                have HBB := Held.mk hbb
                clear hbb
                go_wp2_with fail
                go_quiet (fail)
                go_wp2_with fail
                go_roundw
                case rel => exact ⟨q + 1, _, by go_num, by omega, by rw [HM.out], rfl⟩
                case measure => simp [intOf]; omega
              | false =>
                rw [hct] at hcd
                by_cases hc0 : cnt ps o q = 0
                · have hmay : may ps o q = true := by simp [may] at hct ⊢; exact ⟨hct, hc0⟩
                  rw [hc0] at hcw
                  rcases bst_bound (may ps o) (fun i => prs.getD i 0) q with hb1 | ⟨b, hbq, hb1, _⟩
                  · have HM : Held (bst (may ps o) (fun i => prs.getD i 0) (q + 1) = (q : Nat)) := ⟨bst_yes hmay (.inl (by omega))⟩
                    rw [hb1]
                    clear hct hmay hb1 hc0
                    go_wp2_with fail
                    go_quiet (fail)
                    go_wp2_with fail
                    go_roundw
                    case rel => exact ⟨q + 1, _, by go_num, by omega, by rw [HM.out], rfl⟩
                    case measure => simp [intOf]; omega
                  · obtain ⟨adp, rfl, hp1⟩ := RdN.at_ HPr.out hqn
                    obtain ⟨adp', he, hp2⟩ := RdN.at_ HPr.out (show b < n by omega)
                    injection he with he
                    subst he
                    rw [hb1]
                    have hb0 : ¬ ((b : Int) < 0) := by omega
                    have hbn : b < n := by omega
                    by_cases hgt : prs.getD q 0 > prs.getD b 0
                    · have HM : Held (bst (may ps o) (fun i => prs.getD i 0) (q + 1) = (q : Nat)) := ⟨bst_yes hmay (.inr (by rw [hb1]; exact hgt))⟩
                      generalize prs.getD q 0 = x at *
                      generalize prs.getD b 0 = y at *
                      have hgt' : y < x := hgt
                      have hdd : decide (y < x) = true := decide_eq_true hgt'
                      clear hct hmay hb1 hc0 hgt
                      go_wp2_with fail
                      go_quiet (fail)
                      go_wp2_with fail
                      go_roundw
                      case rel => exact ⟨q + 1, _, by go_num, by omega, by rw [HM.out], rfl⟩
                      case measure => simp [intOf]; omega
                    · have HM : Held (bst (may ps o) (fun i => prs.getD i 0) (q + 1) = (b : Nat)) := ⟨by rw [bst_no2 (by omega) (by rw [hb1]; exact hgt), hb1]⟩
                      generalize prs.getD q 0 = x at *
                      generalize prs.getD b 0 = y at *
                      have hgt' : ¬ (y < x) := hgt
                      have hdd : decide (y < x) = false := decide_eq_false hgt'
                      clear hct hmay hb1 hc0 hgt
                      go_wp2_with fail
                      go_quiet (fail)
                      go_wp2_with fail
                      go_roundw
                      case rel => exact ⟨q + 1, _, by go_num, by omega, by rw [HM.out], rfl⟩
                      case measure => simp [intOf]; omega
                · have HM : Held (bst (may ps o) (fun i => prs.getD i 0) (q + 1) = bst (may ps o) (fun i => prs.getD i 0) q) := ⟨bst_no1 (by simp [may, hc0])⟩
                  have hci : ¬ (((cnt ps o q : Nat) : Int) = 0) := by omega
                  generalize ((cnt ps o q : Nat) : Int) = ci at hcw hci
                  have hcb : (ci == 0) = false := beq_eq_false_iff_ne.2 hci
                  clear hct hc0 hci
                  generalize hbb : bst (may ps o) (fun i => prs.getD i 0) q = bb at *
                  have HBB := Held.mk hbb
                  clear hbb
                  go_wp2_with fail
                  go_quiet (fail)
                  go_wp2_with fail
                  go_roundw
                  case rel => exact ⟨q + 1, _, by go_num, by omega, by rw [HM.out], rfl⟩
                  case measure => simp [intOf]; omega
            · obtain rfl : q = n := by omega
              rcases next_cases ps (fun i => prs.getD i 0) q o with hnx | ⟨b, hbn, hnx, hbo⟩
              · have HE : Held (ord ps (fun i => prs.getD i 0) q = o) := ⟨by rw [← HO2.out.2]; exact runs_end (by omega)⟩
                have hnx' : bst (may ps o) (fun i => prs.getD i 0) q = -1 := hnx
                have HL : Held (o.length = k2) := ⟨HO2.out.1⟩
                rw [hnx']
                clear hnx hnx'
                go_wp2_with fail
                go_ret2
                have hne : ¬ o.length = q := by rw [HL.out]; omega
                refine ⟨.slice none 0 0, ?_, ?_, below_drewN_ HBk2.out _⟩
                · rw [HE.out, decide_eq_false hne]
                  rfl
                · rw [HE.out, whole, if_neg hne]
                  exact own_nil _ _ _ _
              · have HE : Held (runs ps (fun i => prs.getD i 0) q (q - (k2 + 1)) (o ++ [b]) = ord ps (fun i => prs.getD i 0) q) := ⟨by
                  rw [← HO2.out.2, show q - k2 = (q - (k2 + 1)) + 1 from by omega]
                  exact (runs_next hnx).symm⟩
                have hnx' : bst (may ps o) (fun i => prs.getD i 0) q = (b : Nat) := hnx
                have HL : Held ((o ++ [b]).length = k2 + 1) := ⟨by rw [List.length_append, HO2.out.1]; rfl⟩
                rw [hnx']
                clear hnx hnx' HPr HDk HWk
                have hb0 : ¬ ((b : Int) < 0) := by omega
                have hfd : W.frozen? ⟨D, b, none⟩ = false := HDk2.out.frozen b
                have hcd : W.cell? ⟨D, b, none⟩ = some (.bool (o.contains b)) := by
                  have := HDk2.out.cell hbn
                  rwa [row_at, if_pos hbn] at this
                generalize o.contains b = ob at hcd
                have kx : Keep (fun j => j = D) W ((((W.drewN j).setCell ⟨D, b, none⟩ (.bool true))).alloc (.cells #[.int .i64 (b : Int)] 3)) := (((Keep.refl (fun j => j = D) W).drewN j).setCell (p := ⟨D, b, none⟩) (fun _ => rfl) _).alloc _
                have HOx : Held (((((W.drewN j).setCell ⟨D, b, none⟩ (.bool true))).alloc (.cells #[.int .i64 (b : Int)] 3)).ownsRow (w.heap.size + 2) 3 1 (.slice Ao k2 co) k2 (ints o)) := ⟨kx.own HOk2.out (fun j e1 e2 => by have := own_ge HOk2.out j e1; omega)⟩
                have hsz : ((W.drewN j).setCell ⟨D, b, none⟩ (.bool true)).heap.size = W.heap.size := by simp [World.setCell]
                have HRd : Held (RdV ((((W.drewN j).setCell ⟨D, b, none⟩ (.bool true))).alloc (.cells #[.int .i64 (b : Int)] 3)) (fun _ => True) 1 (some ⟨W.heap.size, 0, none⟩) 1 [.int .i64 (b : Int)]) := ⟨by
                  rw [← hsz]
                  exact ⟨rfl, fun _ => ⟨_, rfl, trivial, World.news_of_block (cs := #[.int .i64 (b : Int)]) (t := 3) (fr := (0, 0)) (heap_alloc_new _ _)⟩⟩⟩
                have HKx := Held.mk kx
                have HXs : Held (W.heap.size ≤ ((((W.drewN j).setCell ⟨D, b, none⟩ (.bool true))).alloc (.cells #[.int .i64 (b : Int)] 3)).heap.size) := ⟨kx.size⟩
                have HDx : Held (Rw ((((W.drewN j).setCell ⟨D, b, none⟩ (.bool true))).alloc (.cells #[.int .i64 (b : Int)] 3)) D 4 D q (row q fun i => .bool ((o ++ [b]).contains i))) := ⟨by
                  have := (((HDk2.out.keep ((Keep.refl (fun _ => False) W).drewN j) (fun h => h)).set_ hbn (.bool true)).keep ((Keep.refl (fun _ => False) _).alloc (.cells #[.int .i64 (b : Int)] 3)) (fun h => h))
                  rwa [row_set hbn (g := fun i => .bool ((o ++ [b]).contains i)) (by simp) (fun y _ hy => by simp [hy])] at this⟩
                clear kx hsz
                go_wp2_with ((at_builtin; go_loud (refine appS _ (w.heap.size + 2) rfl (.tmp 83) (.tmp 85) 23 3 (.int .i64 0) 1 8 rfl underI infoI rfl (by decide) (by decide) (.slice Ao k2 co) k2 (ints o) rfl HOx.out (fun _ => True) (some ⟨W.heap.size, 0, none⟩) 1 1 [.int .i64 (b : Int)] rfl HRd.out (one_one _) ?c3 ?c4 ?_)); (case c3 => omega); (case c4 => (have := HXs.out; have := HSk2.out; omega)); (intro v2 w3 ho3 hg3 hat3); (obtain ⟨A2, c2, rfl, _⟩ := own_slice_ ho3))
                have kg : Keep (fun j => (Value.slice Ao k2 co).ownBlock = some j) ((((W.drewN j).setCell ⟨D, b, none⟩ (.bool true))).alloc (.cells #[.int .i64 (b : Int)] 3)) w3 := Keep.of_grown hg3
                have hge : ∀ i, (Value.slice Ao k2 co).ownBlock = some i → w.heap.size + 2 ≤ i := fun i e => own_ge HOk2.out i e
                have HB3 : Held (Below w.heap.size w w3) := ⟨(((Keep.of_below HBk2.out (fun _ => False)).then HKx.out (fun i hi e => by omega)).then kg (fun i hi e => by have := hge i e; omega)).to_below (fun _ _ h => h)⟩
                have HW3 : Held (Nr w3 w.heap.size w.heap.size q (row q (cnt ps o))) := ⟨(HWk2.out.keep HKx.out (by omega)).keep kg (fun e => by have := hge _ e; omega)⟩
                have HD3 : Held (Rw w3 D 4 D q (row q fun i => .bool ((o ++ [b]).contains i))) := ⟨HDx.out.keep kg (fun e => by have := hge _ e; omega)⟩
                have HO3 : Held (w3.ownsRow (w.heap.size + 2) 3 1 (.slice A2 (k2 + 1) c2) (k2 + 1) (ints (o ++ [b]))) := ⟨by rw [ints_snoc]; exact ho3⟩
                have HS3 : Held (w.heap.size + 2 ≤ w3.heap.size) := ⟨by have := HXs.out; have := HSk2.out; have := kg.size; omega⟩
                have HW4 : Held (Nr w3 w.heap.size w.heap.size q (row q (fun x => cnt ps (o ++ [b]) x + (beh (ps.drop 0) b).count x))) := ⟨by
                  have := HW3.out
                  rwa [show cnt ps o = fun x => cnt ps (o ++ [b]) x + (beh (ps.drop 0) b).count x from funext fun x => cnt_put ps o b x hbo] at this⟩
                clear kg hge hg3 hat3 ho3 hfd hcd HOx HRd HKx HDx HXs HWk2 HDk2 HOk2 HW3 HBk2
                go_loopw [14] (fun i W' => ∃ z : Nat, i = .int .i64 z ∧ z ≤ k ∧ Held (Nr W' w.heap.size w.heap.size q (row q (fun x => cnt ps (o ++ [b]) x + (beh (ps.drop z) b).count x))) ∧ Held (Keep (fun j => j = w.heap.size) w3 W')) (fun i _ => k - (intOf i).toNat)
                case atStart => exact ⟨0, rfl, Nat.zero_le _, HW4, ⟨Keep.refl _ _⟩⟩
                case round =>
                  obtain ⟨z, rfl, hz, HWz, HKz⟩ := hrel
                  clear HW4
                  have HBz : Held (Below w.heap.size w wr) := ⟨((Keep.of_below HB3.out (fun _ => False)).then HKz.out (fun i hi e => by omega)).to_below (fun _ _ h => h)⟩
                  by_cases hzl : z < k
                  · have hzp : z < ps.length := by have := HM.out; omega
                    obtain ⟨ad, rfl, hak, c0, c1⟩ := (HA.out.keep (Keep.of_below HBz.out (fun _ => False)) (fun _ _ h => h)).at_ hzp
                    have hpk := HP.out ps[z] (List.getElem_mem hzp)
                    have HDr : Held (ps.drop z = (ps[z].1, ps[z].2) :: ps.drop (z + 1)) := ⟨List.drop_eq_getElem_cons hzp⟩
                    generalize ps[z].1 = a at *
                    generalize ps[z].2 = x at *
                    obtain ⟨hax, hxn⟩ := hpk
                    by_cases hab : a = b
                    · subst hab
                      have HCn : Held (beh (ps.drop z) a = x :: beh (ps.drop (z + 1)) a) := ⟨by rw [HDr.out, beh_cons, if_pos rfl]⟩
                      have hcw := HWz.out.cell hxn
                      have hfw := HWz.out.frozen x
                      have hle : cnt ps (o ++ [a]) x ≤ 17592186044416 := by
                        have := cnt_le ps (o ++ [a]) x
                        have := HM.out
                        omega
                      have hle2 : (beh (ps.drop (z + 1)) a).count x ≤ 17592186044416 := by
                        have h1 : (beh (ps.drop (z + 1)) a).count x ≤ (beh (ps.drop (z + 1)) a).length := List.count_le_length
                        have h2 := beh_len (ps.drop (z + 1)) a
                        rw [List.length_drop] at h2
                        have := HM.out
                        omega
                      rw [List.getD_eq_getElem?_getD, row_at, if_pos hxn, Option.getD_some, HCn.out, List.count_cons_self, ← Nat.add_assoc] at hcw
                      generalize hy : cnt ps (o ++ [a]) x + (beh (ps.drop (z + 1)) a).count x = y at *
                      have HY := Held.mk hy
                      have hyI : (y : Int) ≤ 35184372088832 := by omega
                      have hcw' : wr.cell? ⟨w.heap.size, x, none⟩ = some (.int .i64 ((y : Int) + 1)) := hcw
                      have hw64 : wrap64 ((y : Int) + 1 - 1) = (y : Int) := by
                        rw [show (y : Int) + 1 - 1 = y from by omega]
                        exact IntWalk.wrap64_in _ ⟨by omega, by omega⟩
                      have hwy : wrap64 (y : Int) = (y : Int) := IntWalk.wrap64_in _ ⟨by omega, by omega⟩
                      have HWn : Held (Nr (wr.setCell ⟨w.heap.size, x, none⟩ (.int .i64 (y : Int))).drew w.heap.size w.heap.size q (row q (fun u => cnt ps (o ++ [a]) u + (beh (ps.drop (z + 1)) a).count u))) := ⟨by
                        refine Nr.keep ?_ ((Keep.refl (fun _ => False) _).drew) (fun h => h)
                        have := HWz.out.set_ hxn y
                        rwa [row_set hxn (g := fun u => cnt ps (o ++ [a]) u + (beh (ps.drop (z + 1)) a).count u) HY.out (fun u _ hu => by simp only [HCn.out, List.count_cons_of_ne (fun e : x = u => hu e.symm)])] at this⟩
                      have HKn : Held (Keep (fun j => j = w.heap.size) w3 (wr.setCell ⟨w.heap.size, x, none⟩ (.int .i64 (y : Int))).drew) := ⟨(HKz.out.setCell (p := ⟨w.heap.size, x, none⟩) (fun _ => rfl) _).drew⟩
                      have hbne : (ad.add (z * 2)).block ≠ w.heap.size := by
                        have := HOk.out _ hak
                        rw [block_of_add]
                        omega
                      clear hcw hy HWz HKz hle hle2
                      go_wp2_with fail
                      refine start_ (n := 17) (S := fun w' => w'.cell? ⟨(ad.add (z * 2)).block, (ad.add (z * 2)).off + 1, none⟩ = some (.int .i64 (x : Int)) ∧ w'.cell? ⟨w.heap.size, x, none⟩ = some (.int .i64 ((y : Int) + 1))) (ds := [16]) #[false, false, false, false, false, false, false, false, false, false, false, false, false, false, false, false, false] (by kernel_rfl) rfl rfl ⟨c1, hcw'⟩ (fun hHeld => ?_)
                      refine pure_ (i := 0) (N := some 100) (v := ?_) (a' := ?_) #[true, false, false, false, false, false, false, false, false, false, false, false, false, false, false, false, false] rfl rfl (by kernel_rfl) (fun _ _ _ h => h) (Or.inl ⟨by rfl, ?_⟩) ?_ ?_
                      rotate_left
                      · intro w'
                        go_simp
                        with_reducible rfl
                      rotate_left
                      · simp only [Act.put, List.setIfInBounds_toArray, List.set_cons_zero, List.set_cons_succ, i64_w, i32_w]
                        rfl
                      refine pure_ (i := 1) (N := some 101) (v := ?_) (a' := ?_) #[true, true, false, false, false, false, false, false, false, false, false, false, false, false, false, false, false] rfl rfl (by kernel_rfl) (fun _ _ _ h => h) (Or.inl ⟨by rfl, ?_⟩) ?_ ?_
                      rotate_left
                      · intro w'
                        go_simp
                        with_reducible rfl
                      rotate_left
                      · simp only [Act.put, List.setIfInBounds_toArray, List.set_cons_zero, List.set_cons_succ, i64_w, i32_w]
                        rfl
                      refine pure_ (i := 2) (N := some 102) (v := ?_) (a' := ?_) #[true, true, true, false, false, false, false, false, false, false, false, false, false, false, false, false, false] rfl rfl (by kernel_rfl) (fun _ _ _ h => h) (Or.inl ⟨by rfl, ?_⟩) ?_ ?_
                      rotate_left
                      · intro w'
                        go_simp
                        with_reducible rfl
                      rotate_left
                      · simp only [Act.put, List.setIfInBounds_toArray, List.set_cons_zero, List.set_cons_succ, i64_w, i32_w]
                        rfl
                      refine pure_ (i := 3) (N := some 103) (v := ?_) (a' := ?_) #[true, true, true, true, false, false, false, false, false, false, false, false, false, false, false, false, false] rfl rfl (by kernel_rfl) (fun _ _ _ h => h) (Or.inl ⟨by rfl, ?_⟩) ?_ ?_
                      rotate_left
                      · intro w'
                        go_simp
                        with_reducible rfl
                      rotate_left
                      · simp only [Act.put, List.setIfInBounds_toArray, List.set_cons_zero, List.set_cons_succ, i64_w, i32_w]
                        rfl
                      refine pure_ (i := 4) (N := some 104) (v := ?_) (a' := ?_) #[true, true, true, true, true, false, false, false, false, false, false, false, false, false, false, false, false] rfl rfl (by kernel_rfl) (fun _ _ _ h => h) (Or.inl ⟨by rfl, ?_⟩) ?_ ?_
                      rotate_left
                      · intro w'
                        go_simp
                        with_reducible rfl
                      rotate_left
                      · simp only [Act.put, List.setIfInBounds_toArray, List.set_cons_zero, List.set_cons_succ, i64_w, i32_w]
                        rfl
                      refine pure_ (i := 6) (N := some 106) (v := ?_) (a' := ?_) #[true, true, true, true, true, false, true, false, false, false, false, false, false, false, false, false, false] rfl rfl (by kernel_rfl) (fun _ _ _ h => h) (Or.inl ⟨by rfl, ?_⟩) ?_ ?_
                      rotate_left
                      · intro w'
                        go_simp
                        with_reducible rfl
                      rotate_left
                      · simp only [Act.put, List.setIfInBounds_toArray, List.set_cons_zero, List.set_cons_succ, i64_w, i32_w]
                        rfl
                      refine pure_ (i := 7) (N := some 107) (v := ?_) (a' := ?_) #[true, true, true, true, true, false, true, true, false, false, false, false, false, false, false, false, false] rfl rfl (by kernel_rfl) (fun _ _ _ h => h) (Or.inl ⟨by rfl, ?_⟩) ?_ ?_
                      rotate_left
                      · intro w'
                        go_simp
                        with_reducible rfl
                      rotate_left
                      · simp only [Act.put, List.setIfInBounds_toArray, List.set_cons_zero, List.set_cons_succ, i64_w, i32_w]
                        rfl
                      refine pure_ (i := 8) (N := some 108) (v := ?_) (a' := ?_) #[true, true, true, true, true, false, true, true, true, false, false, false, false, false, false, false, false] rfl rfl (by kernel_rfl) (fun _ _ _ h => h) (Or.inl ⟨by rfl, ?_⟩) ?_ ?_
                      rotate_left
                      · intro w'
                        go_simp
                        with_reducible rfl
                      rotate_left
                      · simp only [Act.put, List.setIfInBounds_toArray, List.set_cons_zero, List.set_cons_succ, i64_w, i32_w]
                        rfl
                      refine pure_ (i := 9) (N := some 109) (v := ?_) (a' := ?_) #[true, true, true, true, true, false, true, true, true, true, false, false, false, false, false, false, false] rfl rfl (by kernel_rfl) (fun _ _ _ h => h) (Or.inl ⟨by rfl, ?_⟩) ?_ ?_
                      rotate_left
                      · intro w'
                        go_simp
                        with_reducible rfl
                      rotate_left
                      · simp only [Act.put, List.setIfInBounds_toArray, List.set_cons_zero, List.set_cons_succ, i64_w, i32_w]
                        rfl
                      refine pure_ (i := 10) (N := some 110) (v := ?_) (a' := ?_) #[true, true, true, true, true, false, true, true, true, true, true, false, false, false, false, false, false] rfl rfl (by kernel_rfl) (fun _ _ _ h => h) (Or.inl ⟨by rfl, ?_⟩) ?_ ?_
                      rotate_left
                      · intro w'
                        go_simp
                        with_reducible rfl
                      rotate_left
                      · simp only [Act.put, List.setIfInBounds_toArray, List.set_cons_zero, List.set_cons_succ, i64_w, i32_w]
                        rfl
                      refine take_ (i := 5) (N := some 105) (v := ?_) (a' := ?_) #[true, true, true, true, true, true, true, true, true, true, true, false, false, false, false, false, false] rfl rfl (by kernel_rfl) (fun _ _ _ h => h) (Or.inl ⟨by rfl, ?_⟩) hHeld ?_ ?_
                      rotate_left
                      · rintro w' ⟨s0, s1⟩
                        go_simp
                        with_reducible rfl
                      rotate_left
                      · simp only [Act.put, List.setIfInBounds_toArray, List.set_cons_zero, List.set_cons_succ, i64_w, i32_w]
                        rfl
                      refine take_ (i := 11) (N := some 111) (v := ?_) (a' := ?_) #[true, true, true, true, true, true, true, true, true, true, true, true, false, false, false, false, false] rfl rfl (by kernel_rfl) (fun _ _ _ h => h) (Or.inl ⟨by rfl, ?_⟩) hHeld ?_ ?_
                      rotate_left
                      · rintro w' ⟨s0, s1⟩
                        go_simp
                        with_reducible rfl
                      rotate_left
                      · simp only [Act.put, List.setIfInBounds_toArray, List.set_cons_zero, List.set_cons_succ, i64_w, i32_w]
                        rfl
                      refine pure_ (i := 12) (N := some 112) (v := ?_) (a' := ?_) #[true, true, true, true, true, true, true, true, true, true, true, true, true, false, false, false, false] rfl rfl (by kernel_rfl) (fun _ _ _ h => h) (Or.inl ⟨by rfl, ?_⟩) ?_ ?_
                      rotate_left
                      · intro w'
                        go_simp
                        with_reducible rfl
                      rotate_left
                      · simp only [Act.put, List.setIfInBounds_toArray, List.set_cons_zero, List.set_cons_succ, i64_w, i32_w]
                        rfl
                      refine take_ (i := 13) (N := some 113) (v := ?_) (a' := ?_) #[true, true, true, true, true, true, true, true, true, true, true, true, true, true, false, false, false] rfl rfl (by kernel_rfl) (fun _ _ _ h => h) (Or.inl ⟨by rfl, ?_⟩) hHeld ?_ ?_
                      rotate_left
                      · rintro w' ⟨s0, s1⟩
                        go_simp
                        with_reducible rfl
                      rotate_left
                      · simp only [Act.put, List.setIfInBounds_toArray, List.set_cons_zero, List.set_cons_succ, i64_w, i32_w]
                        rfl
                      refine pure_ (i := 14) (N := some 114) (v := ?_) (a' := ?_) #[true, true, true, true, true, true, true, true, true, true, true, true, true, true, true, false, false] rfl rfl (by kernel_rfl) (fun _ _ _ h => h) (Or.inl ⟨by rfl, ?_⟩) ?_ ?_
                      rotate_left
                      · intro w'
                        go_simp
                        with_reducible rfl
                      rotate_left
                      · simp only [Act.put, List.setIfInBounds_toArray, List.set_cons_zero, List.set_cons_succ, i64_w, i32_w]
                        rfl
                      refine pure_ (i := 15) (N := some 115) (v := ?_) (a' := ?_) #[true, true, true, true, true, true, true, true, true, true, true, true, true, true, true, true, false] rfl rfl (by kernel_rfl) (fun _ _ _ h => h) (Or.inl ⟨by rfl, ?_⟩) ?_ ?_
                      rotate_left
                      · intro w'
                        go_simp
                        with_reducible rfl
                      rotate_left
                      · simp only [Act.put, List.setIfInBounds_toArray, List.set_cons_zero, List.set_cons_succ, i64_w, i32_w]
                        rfl
                      refine last_ (i := 16) (N := none) #[true, true, true, true, true, true, true, true, true, true, true, true, true, true, true, true, true] rfl rfl (by kernel_rfl) (by decide) (fun K hK => ?_)
                      refine skip_ (w1 := ?_) (by rfl) rfl ?_ ?_
                      rotate_left
                      · go_simp
                        rfl
                      refine hK.out _ _ ?_
                      clear hK K
                      refine done_ (by kernel_rfl) ?_
                      go_wp2_with fail
                      go_roundw
                      case rel => exact ⟨z + 1, by go_num, by omega, HWn, HKn⟩
                      case measure => simp [intOf]; omega
                    · have hci : ¬ ((a : Int) = b) := by omega
                      have hcb : ((a : Int) == b) = false := beq_eq_false_iff_ne.2 hci
                      have HWn : Held (Nr wr w.heap.size w.heap.size q (row q (fun u => cnt ps (o ++ [b]) u + (beh (ps.drop (z + 1)) b).count u))) := ⟨by
                        have := HWz.out
                        rwa [HDr.out, show (fun x_1 => cnt ps (o ++ [b]) x_1 + (beh ((a, x) :: ps.drop (z + 1)) b).count x_1) = fun u => cnt ps (o ++ [b]) u + (beh (ps.drop (z + 1)) b).count u from funext fun u => by rw [beh_cons, if_neg hab]] at this⟩
                      clear HWz hab
                      go_wp2_with fail
                      go_roundw
                      case rel => exact ⟨z + 1, by go_num, by omega, HWn, HKz⟩
                      case measure => simp [intOf]; omega
                  · obtain rfl : z = k := by omega
                    have HWe : Held (Nr wr w.heap.size w.heap.size q (row q (cnt ps (o ++ [b])))) := ⟨by
                      have := HWz.out
                      rwa [show (fun x => cnt ps (o ++ [b]) x + (beh (ps.drop z) b).count x) = cnt ps (o ++ [b]) from funext fun x => by rw [HM.out, List.drop_length]; rfl] at this⟩
                    have HOe : Held (wr.ownsRow (w.heap.size + 2) 3 1 (.slice A2 (k2 + 1) c2) (k2 + 1) (ints (o ++ [b]))) := ⟨HKz.out.own HO3.out (fun i e1 e2 => by have := own_ge HO3.out i e1; omega)⟩
                    have HDe : Held (Rw wr D 4 D q (row q fun i => .bool ((o ++ [b]).contains i))) := ⟨HD3.out.keep HKz.out (by omega)⟩
                    have HSe : Held (w.heap.size + 2 ≤ wr.heap.size) := ⟨Nat.le_trans HS3.out HKz.out.size⟩
                    have HOf : Held ((o ++ [b]).length = k2 + 1 ∧ runs ps (fun i => prs.getD i 0) q (q - (k2 + 1)) (o ++ [b]) = ord ps (fun i => prs.getD i 0) q) := ⟨⟨HL.out, HE.out⟩⟩
                    clear HWz HKz HO3 HD3 HS3 HB3
                    go_wp2_with fail
                    go_roundw
                    case rel => exact ⟨k2 + 1, o ++ [b], by omega, HOf, HOe, HWe, HDe, HBz, HSe⟩
                    case measure => simp [slen]; omega
        · obtain rfl : k2 = n := by omega
          have HE : Held (o = ord ps (fun i => prs.getD i 0) k2) := ⟨by
            have := HO2.out.2
            rwa [Nat.sub_self] at this⟩
          have HL : Held (o.length = k2) := ⟨HO2.out.1⟩
          go_wp2_with fail
          go_ret2
          refine ⟨.slice Ao k2 co, ?_, ?_, HBk2.out⟩
          · rw [← HE.out, decide_eq_true HL.out]
            rfl
          · rw [← HE.out, whole, if_pos HL.out, HL.out]
            exact own_rebase HOk2.out (fun j e => by have := own_ge HOk2.out j e; omega)
end Ord
end Go.Proofs.YtgmanmbicoofgaaDoor
