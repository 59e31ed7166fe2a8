/- order: the walk. -/
import Derived.Test.YtgmanmbicoofgaaDoorGps
import Derived.Test.YtgmanmbicoofgaaDoorOrm
import Derived.Deep.QuietTactic
import Derived.BigQuiet
import Derived.WalkMore
import Derived.Test.YtgmanmbicoofgaaDoorWLast
namespace Go.Proofs.YtgmanmbicoofgaaDoor
set_option linter.unusedVariables false
set_option linter.unusedSimpArgs false
namespace Ord
open Go.RowKit Mem Grp Go.Proofs.YtgmanmbicoofgaaDoorW.PrintLast
theorem ints_snoc (o : List Nat) (b : Nat) : ints (o ++ [b]) = ints o ++ [.int .i64 (b : Int)] := by simp [ints]
theorem below_drewN_ {n : Nat} {w w' : World} (h : Below n w w') (k : Nat) : Below n w (w'.drewN k) := ⟨h.os, h.tape, h.output, h.size, h.block⟩
set_option maxHeartbeats 4000000 in
set_option maxRecDepth 100000 in
theorem order_any (n : Nat) (A Ap : Option Addr) (m c cp : Nat) (ps : List (Nat × Nat)) (prs : List Int) (ok okp : Nat → Prop) (w : World) (hn : n ≤ 4096) (hm : m = ps.length) (hb : m ≤ 17592186044416) (h : RdP w ok A ps) (hok : ∀ k, ok k → k < w.heap.size) (hp : ∀ p ∈ ps, p.1 < n ∧ p.2 < n)
    (hr : RdN w okp .i64 Ap n prs) (hokp : ∀ k, okp k → k < w.heap.size) :
    Calls Tryd.prog 52 #[.int .i64 n, .slice A m c, .slice Ap n cp] w fun e w' => ∃ v, e = .returned (.tuple #[v, .bool (decide ((ord ps (fun i => prs.getD i 0) n).length = n))]) ∧ w'.ownsRow w.heap.size 3 1 v (ord ps (fun i => prs.getD i 0) n).length (ints (ord ps (fun i => prs.getD i 0) n)) ∧ Below w.heap.size w w' := by
  have hmk := run_make_row' (P := Tryd.prog) 23 3 (.int .i64 0) 8 underI infoI rfl .i64 .i64 n (by omega) (by omega)
  have hmk2 := run_make_row' (P := Tryd.prog) 35 23 (.slice none 0 0) 24 under2 info2 rfl .i64 .i64 n (by omega) (by omega)
  have hz : List.replicate n 0 = row n (cnt (ps.take 0) []) := row_ext (by simp) (fun i hi => by simp [hi, cnt])
  have HW0 : Held (Nr (w.alloc (.cells (madeCells #[.int .i64 0] n) 3)) w.heap.size w.heap.size n (row n (cnt (ps.take 0) []))) := ⟨by rw [← hz]; exact Nr.made w n (by omega)⟩
  have HA := Held.mk h
  have HP := Held.mk hp
  have HO := Held.mk hok
  have HM := Held.mk hm
  have HR := Held.mk hr
  have HOp := Held.mk hokp
  clear h hp hok hm hr hokp hz
  have HV0 : Held (Rw ((w.alloc (.cells (madeCells #[.int .i64 0] n) 3)).alloc (.cells (madeCells #[.slice none 0 0] n) 23)) (w.heap.size + 1) 23 (w.heap.size + 1) n (row n fun _ => .slice none 0 0)) := ⟨by
    have := Rw.made (w.alloc (.cells (madeCells #[.int .i64 0] n) 3)) 23 n (.slice none 0 0) (by omega)
    simpa using this⟩
  have HW1 : Held (Nr ((w.alloc (.cells (madeCells #[.int .i64 0] n) 3)).alloc (.cells (madeCells #[.slice none 0 0] n) 23)) w.heap.size w.heap.size n (row n (cnt (ps.take 0) []))) := ⟨HW0.out.keep ((Keep.refl (fun _ => False) _).alloc _) (fun h => h)⟩
  have HB1 : Held (Below w.heap.size w ((w.alloc (.cells (madeCells #[.int .i64 0] n) 3)).alloc (.cells (madeCells #[.slice none 0 0] n) 23))) := ⟨((Below.refl _ _).alloc (Nat.le_refl _) _).alloc (by simp) _⟩
  have HS1 : Held (w.heap.size + 2 ≤ ((w.alloc (.cells (madeCells #[.int .i64 0] n) 3)).alloc (.cells (madeCells #[.slice none 0 0] n) 23)).heap.size) := ⟨by simp⟩
  go_enter Tryd.func52, Tryd.ntmps52
  go_wp2_with fail
  go_step3
  go_wp2_with fail
  clear hmk hmk2 HW0
  generalize (w.alloc (.cells (madeCells #[.int .i64 0] n) 3)).alloc (.cells (madeCells #[.slice none 0 0] n) 23) = w1 at *
  go_loopw [24] (fun i wr => ∃ (k : Nat) (V : Nat → Value), i = .int .i64 k ∧ k ≤ m ∧ Held (Nr wr w.heap.size w.heap.size n (row n (cnt (ps.take k) []))) ∧ Held (Rw wr (w.heap.size + 1) 23 (w.heap.size + 1) n (row n V)) ∧ Held (Beh wr (w.heap.size + 2) V (beh (ps.take k)) n) ∧ Held (Below w.heap.size w wr) ∧ Held (w.heap.size + 2 ≤ wr.heap.size)) (fun i _ => m - (intOf i).toNat)
  case atStart => exact ⟨0, fun _ => .slice none 0 0, rfl, Nat.zero_le _, HW1, HV0, ⟨Beh.start w1 (w.heap.size + 2) n⟩, HB1, HS1⟩
  case round =>
    obtain ⟨k, V, rfl, hk, HWk, HVk, HEk, HBk, HSk⟩ := hrel
    clear HW1 HV0 HB1 HS1
    by_cases hlt : k < m
    · have hkp : k < ps.length := by have := HM.out; omega
      obtain ⟨ad, rfl, hak, c0, c1⟩ := (HA.out.keep (Keep.of_below HBk.out (fun _ => False)) (fun _ _ h => h)).at_ hkp
      have hpk := HP.out ps[k] (List.getElem_mem hkp)
      have HT : Held (ps.take (k + 1) = ps.take k ++ [(ps[k].1, ps[k].2)]) := ⟨by rw [List.take_succ_eq_append_getElem hkp]⟩
      generalize ps[k].1 = a at *
      generalize ps[k].2 = b at *
      obtain ⟨ha, hb'⟩ := hpk
      -- the world behind the store into waits
      have hcl : cnt (ps.take k) [] b ≤ m := by
        have := cnt_le (ps.take k) [] b
        have := List.length_take_le k ps
        rw [HM.out]
        omega
      have cw : (wr.alloc (.cells #[.int .i64 (a : Int), .int .i64 (b : Int)] 73)).cell? ⟨w.heap.size, b, none⟩ = some (.int .i64 (cnt (ps.take k) [] b : Nat)) := by
        have := (HWk.out.keep ((Keep.refl (fun _ => False) wr).alloc (.cells #[.int .i64 (a : Int), .int .i64 (b : Int)] 73)) (fun h => h)).cell hb'
        rwa [List.getD_eq_getElem?_getD, row_at, if_pos hb'] at this
      have fw : (wr.alloc (.cells #[.int .i64 (a : Int), .int .i64 (b : Int)] 73)).frozen? ⟨w.heap.size, b, none⟩ = false := (HWk.out.keep ((Keep.refl (fun _ => False) wr).alloc (.cells #[.int .i64 (a : Int), .int .i64 (b : Int)] 73)) (fun h => h)).frozen b
      generalize hc : cnt (ps.take k) [] b = cb at *
      have HC := Held.mk hc
      clear hc
      have hcI : (cb : Int) ≤ 17592186044416 := by omega
      have hkA : Keep (fun j => j = w.heap.size) wr ((wr.alloc (.cells #[.int .i64 (a : Int), .int .i64 (b : Int)] 73)).setCell ⟨w.heap.size, b, none⟩ (.int .i64 ((cb : Int) + 1))) := ((Keep.refl (fun j => j = w.heap.size) wr).alloc _).setCell (p := ⟨w.heap.size, b, none⟩) (fun _ => rfl) _
      have HKA := Held.mk hkA
      have HTb : Held (Blk ((wr.alloc (.cells #[.int .i64 (a : Int), .int .i64 (b : Int)] 73)).setCell ⟨w.heap.size, b, none⟩ (.int .i64 ((cb : Int) + 1))) wr.heap.size 73 #[.int .i64 (a : Int), .int .i64 (b : Int)]) := ⟨(Blk.new wr _ _).far (by have := HSk.out; show wr.heap.size ≠ w.heap.size; omega) _⟩
      have HWn : Held (Nr ((wr.alloc (.cells #[.int .i64 (a : Int), .int .i64 (b : Int)] 73)).setCell ⟨w.heap.size, b, none⟩ (.int .i64 ((cb : Int) + 1))) w.heap.size w.heap.size n (row n (cnt (ps.take (k + 1)) []))) := ⟨by
        have := (HWk.out.keep ((Keep.refl (fun _ => False) wr).alloc (.cells #[.int .i64 (a : Int), .int .i64 (b : Int)] 73)) (fun h => h)).set_ hb' (cb + 1)
        rwa [row_set hb' (g := cnt (ps.take (k + 1)) []) (by rw [HT.out, cnt_snoc, HC.out, if_pos rfl]) (fun y _ hy => by rw [HT.out, cnt_snoc, if_neg (fun e => hy e.symm)]; rfl)] at this⟩
      have hTs := HSk.out
      have hTl : wr.heap.size < ((wr.alloc (.cells #[.int .i64 (a : Int), .int .i64 (b : Int)] 73)).setCell ⟨w.heap.size, b, none⟩ (.int .i64 ((cb : Int) + 1))).heap.size := by simp [World.setCell]
      have HVn := Held.mk (HVk.out.keep hkA (by omega))
      have HEn := Held.mk (HEk.out.keep hkA (fun j h1 _ e => by omega))
      have HBn : Held (Below w.heap.size w ((wr.alloc (.cells #[.int .i64 (a : Int), .int .i64 (b : Int)] 73)).setCell ⟨w.heap.size, b, none⟩ (.int .i64 ((cb : Int) + 1)))) := ⟨((Keep.of_below HBk.out (fun _ => False)).then hkA (fun j hj e => by omega)).to_below (fun _ _ h => h)⟩
      go_wp2_with fail
      clear hkA HKA HWk HVk HEk cw fw c0 c1
      generalize (wr.alloc (.cells #[.int .i64 (a : Int), .int .i64 (b : Int)] 73)).setCell ⟨w.heap.size, b, none⟩ (.int .i64 ((cb : Int) + 1)) = w2 at *
      generalize wr.heap.size = T at *
      have t0 := HTb.out.cell 0
      have t1 := HTb.out.cell 1
      simp at t0 t1
      obtain ⟨A1, c1, hVa, _⟩ := own_slice_ (HEn.out.own a ha)
      have hv : w2.cell? ⟨w.heap.size + 1, a, none⟩ = some (.slice A1 (beh (ps.take k) a).length c1) := by
        have := HVn.out.cell ha
        rwa [row_at, if_pos ha, hVa] at this
      have hf : w2.frozen? ⟨w.heap.size + 1, a, none⟩ = false := HVn.out.frozen a
      have HOw : Held (w2.ownsRow (w.heap.size + 2) 3 1 (.slice A1 (beh (ps.take k) a).length c1) (beh (ps.take k) a).length (ints (beh (ps.take k) a))) := ⟨by rw [← hVa]; exact HEn.out.own a ha⟩
      have hlb : (beh (ps.take k) a).length ≤ 17592186044416 := by
        have := beh_len (ps.take k) a
        have := List.length_take_le k ps
        have := HM.out
        omega
      generalize hL : (beh (ps.take k) a).length = L at *
      have HL := Held.mk hL
      have HVa := Held.mk hVa
      clear hL hVa
      have HC3 : Held ((L + 1 + (L + 1) / 4 + 192) * 8 ≤ 281474976710656) := ⟨by omega⟩
      have HC4 : Held (∀ o, w.heap.size + 2 ≤ (w2.alloc o).heap.size) := ⟨fun o => by simp; omega⟩
      have HN1 : Held (¬ (Value.slice A1 L c1).ownBlock = some T) := ⟨fun e => own_blk_ne HOw.out HTb.out (by decide) e⟩
      have HN2 : Held (¬ (Value.slice A1 L c1).ownBlock = some (w.heap.size + 1)) := ⟨fun e => by have := own_ge HOw.out _ e; omega⟩
      have hv2 : w.heap.size + 1 < w2.heap.size := by omega
      have hv3 : T ≠ w.heap.size + 1 := by omega
      have HD0 : Held (∀ o, (w2.alloc o).cell? ⟨T, 0, none⟩ = some (.int .i64 (a : Int))) := ⟨fun o => ((Keep.refl (fun _ => False) w2).alloc o).cell t0 (fun h => h)⟩
      have HD1 : Held (∀ o, (w2.alloc o).cell? ⟨T, 1, none⟩ = some (.int .i64 (b : Int))) := ⟨fun o => ((Keep.refl (fun _ => False) w2).alloc o).cell t1 (fun h => h)⟩
      have HD3 : Held (∀ o, (w2.alloc o).cell? ⟨w.heap.size + 1, a, none⟩ = some (.slice A1 L c1)) := ⟨fun o => ((Keep.refl (fun _ => False) w2).alloc o).cell hv (fun h => h)⟩
      have HD2 : Held (∀ o, (w2.alloc o).frozen? ⟨w.heap.size + 1, a, none⟩ = false) := ⟨fun o => (((Keep.refl (fun _ => False) w2).alloc o).frozen hv2 (fun h => h)).trans hf⟩
      refine start_ (n := 14) (S := fun w' => w'.cell? ⟨T, 0, none⟩ = some (.int .i64 (a : Int)) ∧ w'.cell? ⟨T, 1, none⟩ = some (.int .i64 (b : Int)) ∧ w'.cell? ⟨w.heap.size + 1, a, none⟩ = some (.slice A1 L c1)) (ds := [13]) #[false, false, false, false, false, false, false, false, false, false, false, false, false, false] (by kernel_rfl) rfl rfl ⟨t0, t1, hv⟩ (fun hHeld => ?_)
      refine pure_ (i := 0) (N := some 35) (v := ?_) (a' := ?_) #[true, false, false, false, false, false, false, false, false, false, false, false, false, false] rfl rfl (by kernel_rfl) (fun _ _ _ h => h) (Or.inl ⟨by rfl, ?_⟩) ?_ ?_
      rotate_left
      · intro w'
        go_simp
        with_reducible rfl
      rotate_left
      · simp only [Act.put, List.setIfInBounds_toArray, List.set_cons_zero, List.set_cons_succ, i64_w, i32_w]
        rfl
      refine pure_ (i := 1) (N := some 36) (v := ?_) (a' := ?_) #[true, true, false, false, false, false, false, false, false, false, false, false, false, false] rfl rfl (by kernel_rfl) (fun _ _ _ h => h) (Or.inl ⟨by rfl, ?_⟩) ?_ ?_
      rotate_left
      · intro w'
        go_simp
        with_reducible rfl
      rotate_left
      · simp only [Act.put, List.setIfInBounds_toArray, List.set_cons_zero, List.set_cons_succ, i64_w, i32_w]
        rfl
      refine pure_ (i := 3) (N := some 38) (v := ?_) (a' := ?_) #[true, true, false, true, false, false, false, false, false, false, false, false, false, false] rfl rfl (by kernel_rfl) (fun _ _ _ h => h) (Or.inl ⟨by rfl, ?_⟩) ?_ ?_
      rotate_left
      · intro w'
        go_simp
        with_reducible rfl
      rotate_left
      · simp only [Act.put, List.setIfInBounds_toArray, List.set_cons_zero, List.set_cons_succ, i64_w, i32_w]
        rfl
      refine pure_ (i := 4) (N := some 39) (v := ?_) (a' := ?_) #[true, true, false, true, true, false, false, false, false, false, false, false, false, false] rfl rfl (by kernel_rfl) (fun _ _ _ h => h) (Or.inl ⟨by rfl, ?_⟩) ?_ ?_
      rotate_left
      · intro w'
        go_simp
        with_reducible rfl
      rotate_left
      · simp only [Act.put, List.setIfInBounds_toArray, List.set_cons_zero, List.set_cons_succ, i64_w, i32_w]
        rfl
      refine pure_ (i := 8) (N := some 43) (v := ?_) (a' := ?_) #[true, true, false, true, true, false, false, false, true, false, false, false, false, false] rfl rfl (by kernel_rfl) (fun _ _ _ h => h) (Or.inl ⟨by rfl, ?_⟩) ?_ ?_
      rotate_left
      · intro w'
        go_simp
        with_reducible rfl
      rotate_left
      · simp only [Act.put, List.setIfInBounds_toArray, List.set_cons_zero, List.set_cons_succ, i64_w, i32_w]
        rfl
      refine take_ (i := 2) (N := some 37) (v := ?_) (a' := ?_) #[true, true, true, true, true, false, false, false, true, false, false, false, false, false] rfl rfl (by kernel_rfl) (fun _ _ _ h => h) (Or.inl ⟨by rfl, ?_⟩) hHeld ?_ ?_
      rotate_left
      · rintro w' ⟨s0, s1, s2⟩
        go_simp
        with_reducible rfl
      rotate_left
      · simp only [Act.put, List.setIfInBounds_toArray, List.set_cons_zero, List.set_cons_succ, i64_w, i32_w]
        rfl
      refine take_ (i := 5) (N := some 40) (v := ?_) (a' := ?_) #[true, true, true, true, true, true, false, false, true, false, false, false, false, false] rfl rfl (by kernel_rfl) (fun _ _ _ h => h) (Or.inl ⟨by rfl, ?_⟩) hHeld ?_ ?_
      rotate_left
      · rintro w' ⟨s0, s1, s2⟩
        go_simp
        with_reducible rfl
      rotate_left
      · simp only [Act.put, List.setIfInBounds_toArray, List.set_cons_zero, List.set_cons_succ, i64_w, i32_w]
        rfl
      refine pure_ (i := 6) (N := some 41) (v := ?_) (a' := ?_) #[true, true, true, true, true, true, true, false, true, false, false, false, false, false] rfl rfl (by kernel_rfl) (fun _ _ _ h => h) (Or.inl ⟨by rfl, ?_⟩) ?_ ?_
      rotate_left
      · intro w'
        go_simp
        with_reducible rfl
      rotate_left
      · simp only [Act.put, List.setIfInBounds_toArray, List.set_cons_zero, List.set_cons_succ, i64_w, i32_w]
        rfl
      refine take_ (i := 7) (N := some 42) (v := ?_) (a' := ?_) #[true, true, true, true, true, true, true, true, true, false, false, false, false, false] rfl rfl (by kernel_rfl) (fun _ _ _ h => h) (Or.inl ⟨by rfl, ?_⟩) hHeld ?_ ?_
      rotate_left
      · rintro w' ⟨s0, s1, s2⟩
        go_simp
        with_reducible rfl
      rotate_left
      · simp only [Act.put, List.setIfInBounds_toArray, List.set_cons_zero, List.set_cons_succ, i64_w, i32_w]
        rfl
      refine take_ (i := 9) (N := some 44) (v := ?_) (a' := ?_) #[true, true, true, true, true, true, true, true, true, true, false, false, false, false] rfl rfl (by kernel_rfl) (fun _ _ _ h => h) (Or.inl ⟨by rfl, ?_⟩) hHeld ?_ ?_
      rotate_left
      · rintro w' ⟨s0, s1, s2⟩
        go_simp
        with_reducible rfl
      rotate_left
      · simp only [Act.put, List.setIfInBounds_toArray, List.set_cons_zero, List.set_cons_succ, i64_w, i32_w]
        rfl
      refine one_ (i := 10) (N := some 45) #[true, true, true, true, true, true, true, true, true, true, true, false, false, false] rfl rfl (by kernel_rfl) (by decide) (fun K hK => ?_)
      refine value_ (w1 := ?_) (v := ?_) (by rfl) rfl ?_ ?_
      rotate_left 2
      · go_simp
        constructor
        · rfl
        · rfl
      refine hK.out _ _ ⟨(HD0.out _), (HD1.out _), (HD3.out _)⟩ (fun hHeld => ?_)
      clear hK K
      refine norm_ (a' := ?_) ?_ ?_
      rotate_left
      · show Act.put _ (some 45) _ = _
        simp only [Act.put, List.setIfInBounds_toArray, List.set_cons_zero, List.set_cons_succ, i64_w, i32_w]
        rfl
      refine one_ (i := 11) (N := some 46) #[true, true, true, true, true, true, true, true, true, true, true, true, false, false] rfl rfl (by kernel_rfl) (by decide) (fun K hK => ?_)
      refine stepS (w.heap.size + 2) rfl (.tmp 42) (.tmp 45) 23 3 (.int .i64 0) 1 8 rfl underI infoI rfl (by decide) (by decide) (.slice A1 L c1) L (ints (beh (ps.take k) a)) rfl (by exact HOw.out.alloc _) (fun _ => True) (some ⟨w2.heap.size, 0, none⟩) 1 1 [.int .i64 (b : Int)] rfl ⟨rfl, fun _ => ⟨_, rfl, trivial, World.news_of_block (cs := #[.int .i64 (b : Int)]) (t := 3) (fr := (0, 0)) (heap_alloc_new _ _)⟩⟩ (one_one _) HC3.out (by exact HC4.out _) ?_
      intro v2 w3 ho3 hg3 hat3
      obtain ⟨A2, c2, rfl, _⟩ := own_slice_ ho3
      have e1 := (Keep.of_grown hg3).cell (a := ⟨T, 0, none⟩) (by exact HD0.out _) (by exact HN1.out)
      have e2 := (Keep.of_grown hg3).cell (a := ⟨T, 1, none⟩) (by exact HD1.out _) (by exact HN1.out)
      have e3 := ((Keep.of_grown hg3).frozen (a := ⟨w.heap.size + 1, a, none⟩) (by simp; omega) (by exact HN2.out)).trans (by exact HD2.out _)
      have e4 := (Keep.of_grown hg3).cell (a := ⟨w.heap.size + 1, a, none⟩) (by exact HD3.out _) (by exact HN2.out)
      refine hK.out _ _ ⟨e1, e2, e4⟩ (fun hHeld => ?_)
      clear hK K
      refine norm_ (a' := ?_) ?_ ?_
      rotate_left
      · show Act.put _ (some 46) _ = _
        simp only [Act.put, List.setIfInBounds_toArray, List.set_cons_zero, List.set_cons_succ, i64_w, i32_w]
        rfl
      refine pure_ (i := 12) (N := some 47) (v := ?_) (a' := ?_) #[true, true, true, true, true, true, true, true, true, true, true, true, true, false] rfl rfl (by kernel_rfl) (fun _ _ _ h => h) (Or.inl ⟨by rfl, ?_⟩) ?_ ?_
      rotate_left
      · intro w'
        go_simp
        with_reducible rfl
      rotate_left
      · simp only [Act.put, List.setIfInBounds_toArray, List.set_cons_zero, List.set_cons_succ, i64_w, i32_w]
        rfl
      refine last_ (i := 13) (N := none) #[true, true, true, true, true, true, true, true, true, true, true, true, true, true] rfl rfl (by kernel_rfl) (by decide) (fun K hK => ?_)
      refine skip_ (w1 := ?_) (by rfl) rfl ?_ ?_
      rotate_left
      · go_simp
        rfl
      refine hK.out _ _ ?_
      clear hK K
      refine done_ (by kernel_rfl) ?_
      have hg3' : (w2.alloc (.cells #[.int .i64 (b : Int)] 3)).grownBy w3 (Value.slice A1 L c1).ownBlock := ⟨hg3.os, hg3.tape, hg3.output, hg3.size, hg3.block⟩
      have kg : Keep (fun j => (Value.slice A1 L c1).ownBlock = some j) w2 w3 := ((Keep.refl _ w2).alloc _).grown hg3' (fun _ _ h => h)
      have kk : Keep (fun j => (Value.slice A1 L c1).ownBlock = some j ∨ j = w.heap.size + 1) w2 (w3.setCell ⟨w.heap.size + 1, a, none⟩ (.slice A2 (L + 1) c2)) := (kg.mono (fun _ _ h => .inl h)).setCell (p := ⟨w.heap.size + 1, a, none⟩) (fun _ => .inr rfl) _
      have hge : ∀ j, (Value.slice A1 L c1).ownBlock = some j → w.heap.size + 2 ≤ j := fun j e => own_ge HOw.out j e
      have HWf : Held (Nr (w3.setCell ⟨w.heap.size + 1, a, none⟩ (.slice A2 (L + 1) c2)) w.heap.size w.heap.size n (row n (cnt (ps.take (k + 1)) []))) := ⟨HWn.out.keep kk (fun h => by
        rcases h with h | h
        · have := hge _ h
          omega
        · omega)⟩
      have HVf : Held (Rw (w3.setCell ⟨w.heap.size + 1, a, none⟩ (.slice A2 (L + 1) c2)) (w.heap.size + 1) 23 (w.heap.size + 1) n (row n (fun i => if i = a then .slice A2 (L + 1) c2 else V i))) := ⟨by
        have := (HVn.out.keep kg (fun h => by have := hge _ h; omega)).set_ ha (.slice A2 (L + 1) c2)
        rwa [row_set ha (g := fun i => if i = a then .slice A2 (L + 1) c2 else V i) (by simp) (fun y _ hy => by simp [hy])] at this⟩
      have HEf : Held (Beh (w3.setCell ⟨w.heap.size + 1, a, none⟩ (.slice A2 (L + 1) c2)) (w.heap.size + 2) (fun i => if i = a then .slice A2 (L + 1) c2 else V i) (beh (ps.take (k + 1))) n) := ⟨by
        have hE1 := HEn.out.keep ((Keep.refl (fun _ => False) w2).alloc (.cells #[.int .i64 (b : Int)] 3)) (fun _ _ _ h => h)
        have := hE1.app (a := a) (x := b) (v' := .slice A2 (L + 1) c2) ha (by rw [HL.out]; exact ho3) (by rw [HVa.out]; exact hg3') (by rw [HVa.out]; exact hat3)
        rw [beh_next ps k a b HT.out] at this
        exact this.keep ((Keep.refl (fun j => j = w.heap.size + 1) w3).setCell (p := ⟨w.heap.size + 1, a, none⟩) (fun _ => rfl) _) (fun j h1 _ e => by omega)⟩
      have HBf : Held (Below w.heap.size w (w3.setCell ⟨w.heap.size + 1, a, none⟩ (.slice A2 (L + 1) c2))) := ⟨((Keep.of_below HBn.out (fun _ => False)).then kk (fun j hj h => by
        rcases h with h | h
        · have := hge _ h
          omega
        · omega)).to_below (fun _ _ h => h)⟩
      have HSf : Held (w.heap.size + 2 ≤ (w3.setCell ⟨w.heap.size + 1, a, none⟩ (.slice A2 (L + 1) c2)).heap.size) := ⟨by have := kk.size; omega⟩
      clear hg3 hg3' hat3 ho3 e1 e2 e3 e4 hHeld kg kk hge HWn HVn HEn HBn HOw
      go_wp2_with fail
      go_roundw
      case rel => exact ⟨k + 1, _, by go_num, by omega, HWf, HVf, HEf, HBf, HSf⟩
      case measure => simp [intOf]; omega
    · obtain rfl : k = m := by omega
      generalize wr = wm at *
      have HT : Held (ps.take k = ps) := ⟨by rw [HM.out, List.take_length]⟩
      rw [HT.out] at HWk HEk
      clear HA HT
      have hmk3 := run_make_row' (P := Tryd.prog) 118 4 (.bool false) 1 underB infoB rfl .i64 .i64 n (by omega) (by omega)
      have HD0 : Held (Rw (wm.alloc (.cells (madeCells #[.bool false] n) 4)) wm.heap.size 4 wm.heap.size n (row n fun i => .bool (([] : List Nat).contains i))) := ⟨by
        have := Rw.made wm 4 n (.bool false) (by omega)
        simpa using this⟩
      have HK0 : Held (Keep (fun j => j = w.heap.size) wm (wm.alloc (.cells (madeCells #[.bool false] n) 4))) := ⟨(Keep.refl _ wm).alloc _⟩
      have HW2 : Held (Nr (wm.alloc (.cells (madeCells #[.bool false] n) 4)) w.heap.size w.heap.size n (row n (cnt ps []))) := ⟨HWk.out.keep ((Keep.refl (fun _ => False) wm).alloc _) (fun h => h)⟩
      have HS2 : Held (wm.heap.size + 1 ≤ (wm.alloc (.cells (madeCells #[.bool false] n) 4)).heap.size) := ⟨by simp⟩
      have HSt : Held (∀ W, Keep (fun j => j = w.heap.size) wm W → Rw W (w.heap.size + 1) 23 (w.heap.size + 1) n (row n V) ∧ Beh W (w.heap.size + 2) V (beh ps) n ∧ Below w.heap.size w W) := ⟨fun W hW => ⟨HVk.out.keep hW (by omega), HEk.out.keep hW (fun j h1 _ e => by omega), ((Keep.of_below HBk.out (fun _ => False)).then hW (fun j hj e => by omega)).to_below (fun _ _ h => h)⟩⟩
      have hDs := HSk.out
      clear HWk HVk HEk HBk HSk
      go_wp2_with fail
      go_step3
      go_wp2_with fail
      clear hmk3
      generalize wm.alloc (.cells (madeCells #[.bool false] n) 4) = wd at *
      generalize hDD : wm.heap.size = D at *
      go_loopw [12, 52] (fun v i W => ∃ (k : Nat) (o : List Nat), i = .int .i64 k ∧ k ≤ n ∧ Held (o.length = k ∧ runs ps (fun i => prs.getD i 0) n (n - k) o = ord ps (fun i => prs.getD i 0) n) ∧ Held (W.ownsRow (D + 1) 3 1 v k (ints o)) ∧ Held (Nr W w.heap.size w.heap.size n (row n (cnt ps o))) ∧ Held (Rw W D 4 D n (row n fun i => .bool (o.contains i))) ∧ Held (Keep (fun j => j = w.heap.size) wm W) ∧ Held (D + 1 ≤ W.heap.size)) (fun v i _ => n - (intOf i).toNat)
      case atStart => exact ⟨0, [], rfl, Nat.zero_le _, ⟨rfl, rfl⟩, ⟨own_nil _ _ _ _⟩, HW2, HD0, HK0, HS2⟩
      case round =>
        obtain ⟨k2, o, rfl, hk2, HO2, HOk, HWk, HDk, HKk, HSk⟩ := hrel
        clear HW2 HD0 HK0 HS2
        generalize wr = W at *
        obtain ⟨Ao, co, rfl, hco⟩ := own_slice_ HOk.out
        by_cases hlt2 : k2 < n
        · have HPr : Held (RdN W okp .i64 Ap n prs) := ⟨RdN.keep HR.out (Keep.of_below (HSt.out _ HKk.out).2.2 (fun _ => False)) (fun _ _ h => h)⟩
          go_wp2_with fail
          go_loopw [14, 55] (fun bv i W' => ∃ (q j : Nat), i = .int .i64 q ∧ q ≤ n ∧ bv = .int .i64 (bst (may ps o) (fun i => prs.getD i 0) q) ∧ W' = W.drewN j) (fun bv i _ => n - (intOf i).toNat)
          case atStart => exact ⟨0, 0, rfl, Nat.zero_le _, rfl, rfl⟩
          case round =>
            obtain ⟨q, j, rfl, hq, rfl, rfl⟩ := hrel
            by_cases hqn : q < n
            · have hcd : W.cell? ⟨D, q, none⟩ = some (.bool (o.contains q)) := by
                have := HDk.out.cell hqn
                rwa [row_at, if_pos hqn] at this
              have hcw : W.cell? ⟨w.heap.size, q, none⟩ = some (.int .i64 (cnt ps o q : Nat)) := by
                have := HWk.out.cell hqn
                rwa [List.getD_eq_getElem?_getD, row_at, if_pos hqn] at this
              have hnI : (n : Int) ≤ 4096 := by omega
              cases hct : o.contains q with
              | true =>
                have HM : Held (bst (may ps o) (fun i => prs.getD i 0) (q + 1) = bst (may ps o) (fun i => prs.getD i 0) q) := ⟨bst_no1 (by simp [may] at hct ⊢; simp [hct])⟩
                rw [hct] at hcd
                clear hct
                generalize hbb : bst (may ps o) (fun i => prs.getD i 0) q = bb at *
                have HBB := Held.mk hbb
                clear hbb
                go_wp2_with fail
                go_quiet (fail)
                go_wp2_with fail
                go_roundw
                case rel => exact ⟨q + 1, _, by go_num, by omega, by rw [HM.out], rfl⟩
                case measure => simp [intOf]; omega
              | false =>
                rw [hct] at hcd
                by_cases hc0 : cnt ps o q = 0
                · have hmay : may ps o q = true := by simp [may] at hct ⊢; exact ⟨hct, hc0⟩
                  rw [hc0] at hcw
                  rcases bst_bound (may ps o) (fun i => prs.getD i 0) q with hb1 | ⟨b, hbq, hb1, _⟩
                  · have HM : Held (bst (may ps o) (fun i => prs.getD i 0) (q + 1) = (q : Nat)) := ⟨bst_yes hmay (.inl (by omega))⟩
                    rw [hb1]
                    clear hct hmay hb1 hc0
                    go_wp2_with fail
                    go_quiet (fail)
                    go_wp2_with fail
                    go_roundw
                    case rel => exact ⟨q + 1, _, by go_num, by omega, by rw [HM.out], rfl⟩
                    case measure => simp [intOf]; omega
                  · obtain ⟨adp, rfl, hp1⟩ := RdN.at_ HPr.out hqn
                    obtain ⟨adp', he, hp2⟩ := RdN.at_ HPr.out (show b < n by omega)
                    injection he with he
                    subst he
                    rw [hb1]
                    have hb0 : ¬ ((b : Int) < 0) := by omega
                    have hbn : b < n := by omega
                    by_cases hgt : prs.getD q 0 > prs.getD b 0
                    · have HM : Held (bst (may ps o) (fun i => prs.getD i 0) (q + 1) = (q : Nat)) := ⟨bst_yes hmay (.inr (by rw [hb1]; exact hgt))⟩
                      generalize prs.getD q 0 = x at *
                      generalize prs.getD b 0 = y at *
                      have hgt' : y < x := hgt
                      have hdd : decide (y < x) = true := decide_eq_true hgt'
                      clear hct hmay hb1 hc0 hgt
                      go_wp2_with fail
                      go_quiet (fail)
                      go_wp2_with fail
                      go_roundw
                      case rel => exact ⟨q + 1, _, by go_num, by omega, by rw [HM.out], rfl⟩
                      case measure => simp [intOf]; omega
                    · have HM : Held (bst (may ps o) (fun i => prs.getD i 0) (q + 1) = (b : Nat)) := ⟨by rw [bst_no2 (by omega) (by rw [hb1]; exact hgt), hb1]⟩
                      generalize prs.getD q 0 = x at *
                      generalize prs.getD b 0 = y at *
                      have hgt' : ¬ (y < x) := hgt
                      have hdd : decide (y < x) = false := decide_eq_false hgt'
                      clear hct hmay hb1 hc0 hgt
                      go_wp2_with fail
                      go_quiet (fail)
                      go_wp2_with fail
                      go_roundw
                      case rel => exact ⟨q + 1, _, by go_num, by omega, by rw [HM.out], rfl⟩
                      case measure => simp [intOf]; omega
                · have HM : Held (bst (may ps o) (fun i => prs.getD i 0) (q + 1) = bst (may ps o) (fun i => prs.getD i 0) q) := ⟨bst_no1 (by simp [may, hc0])⟩
                  have hci : ¬ (((cnt ps o q : Nat) : Int) = 0) := by omega
                  generalize ((cnt ps o q : Nat) : Int) = ci at hcw hci
                  have hcb : (ci == 0) = false := beq_eq_false_iff_ne.2 hci
                  clear hct hc0 hci
                  generalize hbb : bst (may ps o) (fun i => prs.getD i 0) q = bb at *
                  have HBB := Held.mk hbb
                  clear hbb
                  go_wp2_with fail
                  go_quiet (fail)
                  go_wp2_with fail
                  go_roundw
                  case rel => exact ⟨q + 1, _, by go_num, by omega, by rw [HM.out], rfl⟩
                  case measure => simp [intOf]; omega
            · obtain rfl : q = n := by omega
              rcases next_cases ps (fun i => prs.getD i 0) q o with hnx | ⟨b, hbn, hnx, hbo⟩
              · have HE : Held (ord ps (fun i => prs.getD i 0) q = o) := ⟨by rw [← HO2.out.2]; exact runs_end (by omega)⟩
                have hnx' : bst (may ps o) (fun i => prs.getD i 0) q = -1 := hnx
                have HL : Held (o.length = k2) := ⟨HO2.out.1⟩
                have hne : ¬ ((k2 : Int) = q) := by omega
                rw [hnx']
                clear hnx hnx'
                have HB := Held.mk (HSt.out _ HKk.out).2.2
                go_wp2_with fail
                rw [Exit.noGoto_ret]
                go_ret2
                refine ⟨.slice Ao k2 co, by rw [HE.out, HL.out, show (decide (k2 = q)) = ((k2 : Int) == (q : Int)) from by rw [Bool.eq_iff_iff]; simp only [decide_eq_true_eq, beq_iff_eq]; exact ⟨fun h => by omega, fun h => by omega⟩]; rfl, ?_, below_drewN_ HB.out _⟩
                rw [HE.out, HL.out]
                exact own_rebase (((Keep.refl (fun _ => False) W).drewN j).own HOk.out (fun _ _ h => h)) (fun j e => by have := own_ge HOk.out j e; omega)
              · have HE : Held (runs ps (fun i => prs.getD i 0) q (q - (k2 + 1)) (o ++ [b]) = ord ps (fun i => prs.getD i 0) q) := ⟨by
                  rw [← HO2.out.2, show q - k2 = (q - (k2 + 1)) + 1 from by omega]
                  exact (runs_next hnx).symm⟩
                have hnx' : bst (may ps o) (fun i => prs.getD i 0) q = (b : Nat) := hnx
                have HL : Held ((o ++ [b]).length = k2 + 1) := ⟨by rw [List.length_append, HO2.out.1]; rfl⟩
                rw [hnx']
                clear hnx hnx' HPr
                have hb0 : ¬ ((b : Int) < 0) := by omega
                have HSt1 := HSt.out _ HKk.out
                obtain ⟨Ab, cb, hVb, _⟩ := own_slice_ (HSt1.2.1.own b hbn)
                have hfd : W.frozen? ⟨D, b, none⟩ = false := HDk.out.frozen b
                have hcd : W.cell? ⟨D, b, none⟩ = some (.bool (o.contains b)) := by
                  have := HDk.out.cell hbn
                  rwa [row_at, if_pos hbn] at this
                generalize o.contains b = ob at hcd
                have hlb : (beh ps b).length ≤ 17592186044416 := by
                  have := beh_len ps b
                  have := HM.out
                  omega
                -- the world ahead of the append
                have kx : Keep (fun j => j = D) W ((((W.drewN j).setCell ⟨D, b, none⟩ (.bool true))).alloc (.cells #[.int .i64 (b : Int)] 3)) := (((Keep.refl (fun j => j = D) W).drewN j).setCell (p := ⟨D, b, none⟩) (fun _ => rfl) _).alloc _
                have HOx : Held (((((W.drewN j).setCell ⟨D, b, none⟩ (.bool true))).alloc (.cells #[.int .i64 (b : Int)] 3)).ownsRow (D + 1) 3 1 (.slice Ao k2 co) k2 (ints o)) := ⟨kx.own HOk.out (fun j e1 e2 => by have := own_ge HOk.out j e1; omega)⟩
                have hsz : ((W.drewN j).setCell ⟨D, b, none⟩ (.bool true)).heap.size = W.heap.size := by simp [World.setCell]
                have HRd : Held (RdV ((((W.drewN j).setCell ⟨D, b, none⟩ (.bool true))).alloc (.cells #[.int .i64 (b : Int)] 3)) (fun _ => True) 1 (some ⟨W.heap.size, 0, none⟩) 1 [.int .i64 (b : Int)]) := ⟨by
                  rw [← hsz]
                  exact ⟨rfl, fun _ => ⟨_, rfl, trivial, World.news_of_block (cs := #[.int .i64 (b : Int)]) (t := 3) (fr := (0, 0)) (heap_alloc_new _ _)⟩⟩⟩
                have HKx := Held.mk kx
                have HXs : Held (W.heap.size ≤ ((((W.drewN j).setCell ⟨D, b, none⟩ (.bool true))).alloc (.cells #[.int .i64 (b : Int)] 3)).heap.size) := ⟨kx.size⟩
                have HDx : Held (Rw ((((W.drewN j).setCell ⟨D, b, none⟩ (.bool true))).alloc (.cells #[.int .i64 (b : Int)] 3)) D 4 D q (row q fun i => .bool ((o ++ [b]).contains i))) := ⟨by
                  have := (((HDk.out.keep ((Keep.refl (fun _ => False) W).drewN j) (fun h => h)).set_ hbn (.bool true)).keep ((Keep.refl (fun _ => False) _).alloc (.cells #[.int .i64 (b : Int)] 3)) (fun h => h))
                  rwa [row_set hbn (g := fun i => .bool ((o ++ [b]).contains i)) (by simp) (fun y _ hy => by simp [hy])] at this⟩
                clear kx hsz
                go_wp2_with ((at_builtin; go_loud (refine appS _ (D + 1) rfl (.tmp 92) (.tmp 94) 23 3 (.int .i64 0) 1 8 rfl underI infoI rfl (by decide) (by decide) (.slice Ao k2 co) k2 (ints o) rfl HOx.out (fun _ => True) (some ⟨W.heap.size, 0, none⟩) 1 1 [.int .i64 (b : Int)] rfl HRd.out (one_one _) ?c3 ?c4 ?_)); (case c3 => omega); (case c4 => (have := HXs.out; have := HSk.out; omega)); (intro v2 w3 ho3 hg3 hat3); (obtain ⟨A2, c2, rfl, _⟩ := own_slice_ ho3); (have kg : Keep (fun j => (Value.slice Ao k2 co).ownBlock = some j) ((((W.drewN j).setCell ⟨D, b, none⟩ (.bool true))).alloc (.cells #[.int .i64 (b : Int)] 3)) w3 := Keep.of_grown hg3); (have hge : ∀ i, (Value.slice Ao k2 co).ownBlock = some i → D + 1 ≤ i := fun i e => own_ge HOk.out i e); (have HK3 : Held (Keep (fun j => j = w.heap.size) wm w3) := ⟨(HKk.out.then HKx.out (fun i hi e => by omega)).then kg (fun i hi e => by have := hge i e; omega)⟩); (have HW3 : Held (Nr w3 w.heap.size w.heap.size q (row q (cnt ps o))) := ⟨(HWk.out.keep HKx.out (by omega)).keep kg (fun e => by have := hge _ e; omega)⟩); (have HD3 : Held (Rw w3 D 4 D q (row q fun i => .bool ((o ++ [b]).contains i))) := ⟨HDx.out.keep kg (fun e => by have := hge _ e; omega)⟩); (have HO3 : Held (w3.ownsRow (D + 1) 3 1 (.slice A2 (k2 + 1) c2) (k2 + 1) (ints (o ++ [b]))) := ⟨by rw [ints_snoc]; exact ho3⟩); (have HS3 : Held (D + 1 ≤ w3.heap.size) := ⟨by have := HXs.out; have := HSk.out; have := kg.size; omega⟩); (have hcb : w3.cell? ⟨w.heap.size + 1, b, none⟩ = some (.slice Ab (beh ps b).length cb) := by have := (HSt.out _ HK3.out).1.cell hbn; rwa [row_at, if_pos hbn, hVb] at this); (have HRb : Held (RdV w3 (fun i => (V b).ownBlock = some i) 1 Ab (beh ps b).length (ints (beh ps b))) := ⟨by obtain ⟨A', c', e1, _, e2⟩ := RdV.of_own ((HSt.out _ HK3.out).2.1.own b hbn); rw [hVb] at e1; injection e1 with e1; subst e1; exact e2⟩); (clear kg hge hg3 hat3 ho3 hfd hcd HOx HRd HKx HDx HXs HWk HDk HOk))
                have HGb : Held (∀ i, (V b).ownBlock = some i → w.heap.size + 2 ≤ i) := ⟨fun i e => own_ge ((HSt.out _ HK3.out).2.1.own b hbn) i e⟩
                have HW4 : Held (Nr w3 w.heap.size w.heap.size q (row q (fun x => cnt ps (o ++ [b]) x + ((beh ps b).drop 0).count x))) := ⟨by
                  have := HW3.out
                  rwa [show cnt ps o = fun x => cnt ps (o ++ [b]) x + ((beh ps b).drop 0).count x from funext fun x => cnt_put ps o b x hbo] at this⟩
                clear HW3 HKk
                go_loopw [101] (fun i W' => ∃ z : Nat, i = .int .i64 z ∧ z ≤ (beh ps b).length ∧ Held (Nr W' w.heap.size w.heap.size q (row q (fun x => cnt ps (o ++ [b]) x + ((beh ps b).drop z).count x))) ∧ Held (Keep (fun j => j = w.heap.size) w3 W')) (fun i _ => (beh ps b).length - (intOf i).toNat)
                case atStart => exact ⟨0, rfl, Nat.zero_le _, HW4, ⟨Keep.refl _ _⟩⟩
                case round =>
                  obtain ⟨z, rfl, hz, HWz, HKz⟩ := hrel
                  clear HW4
                  by_cases hzl : z < (beh ps b).length
                  · have HRz := HRb.out.keep HKz.out (fun i e => by have := HGb.out i e; omega)
                    obtain ⟨adb, rfl, _, hcc⟩ := HRz.2 (by omega)
                    have hx := beh_mem (List.getElem_mem hzl)
                    have hxn := (HP.out _ hx).2
                    have hcx := hcc z (.int .i64 ((beh ps b)[z] : Nat)) (by simp [ints, List.getElem?_eq_getElem hzl])
                    have HDr : Held ((beh ps b).drop z = (beh ps b)[z] :: (beh ps b).drop (z + 1)) := ⟨List.drop_eq_getElem_cons hzl⟩
                    have hlI : ((beh ps b).length : Int) ≤ 17592186044416 := by omega
                    clear hcc hx
                    generalize (beh ps b)[z] = x at *
                    have hxn' : x < q := hxn
                    have hcw := HWz.out.cell hxn'
                    have hfw := HWz.out.frozen x
                    have hle : cnt ps (o ++ [b]) x ≤ 17592186044416 := by
                      have := cnt_le ps (o ++ [b]) x
                      have := HM.out
                      omega
                    have hle2 : ((beh ps b).drop (z + 1)).count x ≤ 17592186044416 := by
                      have h1 : ((beh ps b).drop (z + 1)).count x ≤ ((beh ps b).drop (z + 1)).length := List.count_le_length
                      rw [List.length_drop] at h1
                      omega
                    rw [List.getD_eq_getElem?_getD, row_at, if_pos hxn', Option.getD_some, HDr.out, List.count_cons_self, ← Nat.add_assoc] at hcw
                    generalize hy : cnt ps (o ++ [b]) x + ((beh ps b).drop (z + 1)).count x = y at *
                    have HY := Held.mk hy
                    have hyI : (y : Int) ≤ 35184372088832 := by omega
                    have hcw' : wr.cell? ⟨w.heap.size, x, none⟩ = some (.int .i64 ((y : Int) + 1)) := hcw
                    have HWn : Held (Nr (wr.setCell ⟨w.heap.size, x, none⟩ (.int .i64 (y : Int))) w.heap.size w.heap.size q (row q (fun x => cnt ps (o ++ [b]) x + ((beh ps b).drop (z + 1)).count x))) := ⟨by
                      have := HWz.out.set_ hxn' y
                      rwa [row_set hxn' (g := fun x => cnt ps (o ++ [b]) x + ((beh ps b).drop (z + 1)).count x) HY.out (fun u _ hu => by simp only [HDr.out, List.count_cons_of_ne (fun e : x = u => hu e.symm)])] at this⟩
                    have HKn : Held (Keep (fun j => j = w.heap.size) w3 (wr.setCell ⟨w.heap.size, x, none⟩ (.int .i64 (y : Int)))) := ⟨HKz.out.setCell (p := ⟨w.heap.size, x, none⟩) (fun _ => rfl) _⟩
                    clear hcw hy HWz HKz HRz hle hle2
                    go_wp2_with fail
                    go_roundw
                    case rel => exact ⟨z + 1, by go_num, by omega, HWn, HKn⟩
                    case measure => simp [intOf]; omega
                  · obtain rfl : z = (beh ps b).length := by omega
                    have HWe : Held (Nr wr w.heap.size w.heap.size q (row q (cnt ps (o ++ [b])))) := ⟨by
                      have := HWz.out
                      rwa [show (fun x => cnt ps (o ++ [b]) x + ((beh ps b).drop (beh ps b).length).count x) = cnt ps (o ++ [b]) from funext fun x => by rw [List.drop_length]; rfl] at this⟩
                    have HOe : Held (wr.ownsRow (D + 1) 3 1 (.slice A2 (k2 + 1) c2) (k2 + 1) (ints (o ++ [b]))) := ⟨HKz.out.own HO3.out (fun i e1 e2 => by have := own_ge HO3.out i e1; omega)⟩
                    have HDe : Held (Rw wr D 4 D q (row q fun i => .bool ((o ++ [b]).contains i))) := ⟨HD3.out.keep HKz.out (by omega)⟩
                    have HKe : Held (Keep (fun j => j = w.heap.size) wm wr) := ⟨HK3.out.trans HKz.out⟩
                    have HSe : Held (D + 1 ≤ wr.heap.size) := ⟨Nat.le_trans HS3.out HKz.out.size⟩
                    have HOf : Held ((o ++ [b]).length = k2 + 1 ∧ runs ps (fun i => prs.getD i 0) q (q - (k2 + 1)) (o ++ [b]) = ord ps (fun i => prs.getD i 0) q) := ⟨⟨HL.out, HE.out⟩⟩
                    clear HWz HKz HO3 HD3 HK3 HS3
                    go_wp2_with fail
                    go_roundw
                    case rel => exact ⟨k2 + 1, o ++ [b], by go_num, by omega, HOf, HOe, HWe, HDe, HKe, HSe⟩
                    case measure => simp [intOf]; omega
        · obtain rfl : k2 = n := by omega
          have HE : Held (o = ord ps (fun i => prs.getD i 0) k2) := ⟨by
            have := HO2.out.2
            rwa [Nat.sub_self] at this⟩
          have HL : Held (o.length = k2) := ⟨HO2.out.1⟩
          have HB := Held.mk (HSt.out _ HKk.out).2.2
          go_wp2_with fail
          rw [Exit.noGoto_ret]
          go_ret2
          refine ⟨.slice Ao k2 co, by rw [← HE.out, HL.out]; simp, ?_, HB.out⟩
          rw [← HE.out, HL.out]
          exact own_rebase HOk.out (fun j e => by have := own_ge HOk.out j e; omega)
end Ord
end Go.Proofs.YtgmanmbicoofgaaDoor
