/- The examples of the chapter: walked. -/
import Derived.Test.YtpbkmkclagikhaaDoorSml
import Derived.Test.YtpbkmkclagikhaaDoorMny
import Derived.Test.YtpbkmkclagikhaaDoorPlg
import Derived.Deep.RegionHeld3
namespace Go.Proofs.YtpbkmkclagikhaaDoor
set_option linter.unusedVariables false
set_option linter.unusedSimpArgs false
namespace Prt
open Go.RowKit Mem Dvs Err Aps
set_option maxHeartbeats 4000000 in
set_option maxRecDepth 100000 in
theorem takes_in (base B d t M : Nat) (hv cs : Int) (v : Value) (xs : List (Nat × Nat)) (w : World) (ho : Ord w base B 100 1000 10 20 d (shr 100 1000 d) v xs) (hb : Best 100 1000 10 20 d hv cs t) (hM : mny 100 1000 d t = M) (hd : d ≤ 100)
    (hh : -9223372036854775808 ≤ hv ∧ hv ≤ 9223372036854775807) (hx : xs.length ≤ 1000) (ys : List (Nat × Nat)) (hy : (if t = 0 then xs else xs ++ [(t, M)]) = ys) :
    Calls Tryd.prog 44 #[.pointer (some ⟨B, 0, none⟩), .int .i64 hv, .int .i64 cs, .int .i64 t, .int .i64 M] w fun e w' => e = .returned (.bool true) ∧
      (∃ v', Ord w' base B 100 1000 10 20 (d + t) (shr 100 1000 (d + t)) v' ys) ∧ ∀ w0 : World, Below w0.heap.size w0 w → w0.heap.size ≤ base → Below w0.heap.size w0 w' := by
  have HO := Held.mk ho
  have HBt := Held.mk hb
  have HT := Held.mk (Take_in base B 100 1000 10 20 d hv cs v xs w ho (by omega) (by omega) (by omega) (by omega) hd hh (by omega))
  clear ho hb hd hh hx
  go_enter Tryd.func44, Tryd.ntmps44
  go_wp2_with fail
  refine HT.out.mono ?_
  rintro e w2 ⟨t2, v2, rfl, hb2, ho2, hk2, _⟩
  have ht := hb2.one HBt.out
  subst ht
  rw [hM, hy] at ho2
  rw [hM]
  have HO2 := Held.mk ho2
  have HK2 := Held.mk hk2
  clear hb2 ho2 hk2
  go_wp2
  go_ret
  refine ⟨rfl, ⟨_, HO2.out⟩, fun w0 hb hle => ?_⟩
  refine ((Keep.of_below hb (fun _ => False)).then HK2.out (fun i hi h => ?_)).to_below (fun _ _ h => h)
  rcases h with h | h
  · have := HO.out.ge
    omega
  · have := own_ge HO.out.own i h
    omega
theorem best1 : Best 100 1000 10 20 0 35 10000 30 := by unfold Best; rw [if_neg (by decide)]; exact ⟨3, by decide, by decide, by decide, by decide⟩
theorem best2 : Best 100 1000 10 20 30 15 10000 0 := by unfold Best; rw [if_neg (by decide)]; exact ⟨1, by decide, by decide, by decide, by decide⟩
theorem best3 : Best 100 1000 10 20 30 70 255 20 := by unfold Best; rw [if_neg (by decide)]; exact ⟨2, by decide, by decide, by decide, by decide⟩
theorem best4 : Best 100 1000 10 20 50 50 499 40 := by unfold Best; rw [if_neg (by decide)]; exact ⟨4, by decide, by decide, by decide, by decide⟩
theorem best5 : Best 100 1000 10 20 90 50 500 10 := by unfold Best; rw [if_pos (by decide)]
theorem legs1 : LegsR 1 2 5 0 10 70 0 [⟨1, 2, 5, 10, 0⟩, ⟨2, 1, 0, 70, 0⟩] := by
  unfold LegsR
  exact .inr (.inr (.inr (.inr (.inr (.inr (.inr (.inr (.inr ⟨by decide, by decide, by decide, by decide, by decide, by decide, by decide, by decide, by decide, rfl, rfl⟩))))))))
theorem legs2 : LegsR 1 2 5 5 10 0 15 [] := by
  unfold LegsR
  exact .inr (.inr (.inr (.inr (.inr (.inl ⟨by decide, by decide, by decide, by decide, by decide, by decide, rfl, rfl⟩)))))
def Od (w : World) (b d : Nat) (v : Value) (xs : List (Nat × Nat)) : Prop := Ord w b b 100 1000 10 20 d (shr 100 1000 d) v xs
theorem od_take (b d t M : Nat) (hv cs : Int) (v : Value) (xs ys : List (Nat × Nat)) (hb : Best 100 1000 10 20 d hv cs t) (hM : mny 100 1000 d t = M) (hd : d ≤ 100) (hh : -9223372036854775808 ≤ hv ∧ hv ≤ 9223372036854775807) (hx : xs.length ≤ 1000) (hy : (if t = 0 then xs else xs ++ [(t, M)]) = ys) (w0 w : World) (ho : Od w b d v xs) (hB : Below w0.heap.size w0 w) (hle : w0.heap.size ≤ b) :
    Calls Tryd.prog 44 #[.pointer (some ⟨b, 0, none⟩), .int .i64 hv, .int .i64 cs, .int .i64 t, .int .i64 M] w fun e w' => e = .returned (.bool true) ∧ (∃ v', Od w' b (d + t) v' ys) ∧ Below w0.heap.size w0 w' := by
  refine (takes_in b b d t M hv cs v xs w ho hb hM hd hh hx ys hy).mono ?_
  rintro e w' ⟨rfl, ⟨v', h1⟩, h2⟩
  exact ⟨rfl, ⟨v', h1⟩, h2 w0 hB hle⟩
set_option maxHeartbeats 8000000 in
set_option maxRecDepth 100000 in
theorem shown_any (w : World) (hg : Laid w) : Calls Tryd.prog 27 #[] w fun e w' => e = .returned (.bool true) ∧ Below w.heap.size w w' := by
  have HG := Held.mk hg
  have HP1 := Held.mk (fun w => Part_in 100 30 61 89 w (by decide) (by decide) (by decide) (by decide) (by decide))
  rw [show part 100 30 61 89 = 0 by decide] at HP1
  have HP2 := Held.mk (fun w => Part_in 20 30 61 20 w (by decide) (by decide) (by decide) (by decide) (by decide))
  rw [show part 20 30 61 20 = 20 by decide] at HP2
  have HM1 : Held (∀ w, Calls Tryd.prog 14 #[.int .i64 9223372036854775807, .int .i64 9223372036854775807, .int .i64 5, .int .i64 7] w fun e w' => e = .returned (.tuple #[.int .i64 7, .nilIface]) ∧ ∃ n, w' = w.drewN n) := ⟨fun w => by
    have h := Money_in 9223372036854775807 9223372036854775807 5 7 w (by decide) (by decide) (by decide) (by decide)
    rw [show mny 9223372036854775807 9223372036854775807 5 7 = 7 by decide +kernel] at h
    exact h⟩
  have HM2 := Held.mk (fun w => Money_no 3 10 2 2 w (by decide) (by unfold mright; omega))
  have HPl := Held.mk plain_refused
  unfold refusedV at HM2 HPl
  have HN := Held.mk (fun w => New_in 100 1000 10 20 w (by decide) (by decide))
  have HL1 := Held.mk (fun w => legs_in 1 2 5 0 10 70 0 _ w legs1)
  have HL2 := Held.mk (fun w => legs_in 1 2 5 5 10 0 15 _ w legs2)
  rw [show errV 0 = .nilIface from rfl] at HL1
  rw [show errV 15 = .iface 66 (.agg #[.int .i64 15]) from rfl] at HL2
  have HPe := Held.mk (fun w hg => plain_errV 15 (by decide) (by decide) w hg)
  rw [show errV 15 = .iface 66 (.agg #[.int .i64 15]) from rfl] at HPe
  have HW := Held.mk works_any
  clear hg
  go_enter Tryd.func27, Tryd.ntmps27
  go_wp2_with fail
  refine (HP1.out _).mono ?_
  rintro e w1 ⟨rfl, hw1⟩
  rw [hw1]
  clear hw1
  go_wp2_with fail
  refine (HP2.out _).mono ?_
  rintro e w1 ⟨rfl, hw1⟩
  rw [hw1]
  clear hw1
  go_wp2_with fail
  refine (HM1.out _).mono ?_
  rintro e w1 ⟨rfl, n1, rfl⟩
  go_wp2_with fail
  refine (HM2.out _).mono ?_
  rintro e w1 ⟨rfl, hw1⟩
  rw [hw1]
  clear hw1
  go_wp2_with fail
  refine (HPl.out _ (HG.out.below (below_drewN (Below.refl _ _) _))).mono ?_
  rintro e w2 ⟨rfl, hb2⟩
  have HB2 : Held (Below w.heap.size w w2) := ⟨(below_drewN (Below.refl _ _) n1).trans hb2⟩
  clear hb2
  go_wp2_with fail
  refine (HN.out _).mono ?_
  rintro e w3 ⟨rfl, hw3⟩
  have HB3 : Held (Below w.heap.size w w3) := ⟨by rw [hw3]; exact HB2.out.alloc HB2.out.size _⟩
  have HO3 : Held (Od w3 w2.heap.size 0 (.slice none 0 0) []) := ⟨by rw [hw3]; exact ⟨Blk.new _ _ _, Nat.le_refl _, own_nil _ _ _ _⟩⟩
  have HLe : Held (w.heap.size ≤ w2.heap.size) := ⟨HB2.out.size⟩
  clear hw3
  generalize w2.heap.size = b at *
  go_wp2_with fail
  refine (od_take b 0 30 300 35 10000 _ [] [(30, 300)] best1 (by decide) (by decide) (by decide) (by decide) (by decide) w _ HO3.out HB3.out HLe.out).mono ?_
  rintro e w4 ⟨rfl, ⟨v4, ho4⟩, hb4⟩
  have HO4 := Held.mk ho4
  have HB4 := Held.mk hb4
  clear ho4 hb4
  go_wp2_with fail
  refine (od_take b 30 0 0 15 10000 _ [(30, 300)] [(30, 300)] best2 (by decide) (by decide) (by decide) (by decide) (by decide) w _ HO4.out HB4.out HLe.out).mono ?_
  rintro e w5 ⟨rfl, ⟨v5, ho5⟩, hb5⟩
  have HO5 := Held.mk ho5
  have HB5 := Held.mk hb5
  clear ho5 hb5
  go_wp2_with fail
  refine (od_take b 30 20 200 70 255 _ [(30, 300)] [(30, 300), (20, 200)] best3 (by decide) (by decide) (by decide) (by decide) (by decide) w _ HO5.out HB5.out HLe.out).mono ?_
  rintro e w6 ⟨rfl, ⟨v6, ho6⟩, hb6⟩
  have HO6 := Held.mk ho6
  have HB6 := Held.mk hb6
  clear ho6 hb6
  have HLf : Held (Calls Tryd.prog 25 #[.pointer (some ⟨b, 0, none⟩)] w6 fun e w' => e = .returned (.tuple #[.int .i64 50, .int .i64 500]) ∧ ∃ n, w' = w6.drewN n) := ⟨by
    have h := Left_in b b 100 1000 10 20 50 500 v6 _ w6 HO6.out (by decide) (by decide) (by decide) (by decide)
    exact h⟩
  go_wp2_with fail
  refine HLf.out.mono ?_
  rintro e w7 ⟨rfl, n7, rfl⟩
  have HO7 : Held (Od (w6.drewN n7) b 50 v6 [(30, 300), (20, 200)]) := ⟨HO6.out.below (below_drewN (Below.refl _ _) _)⟩
  have HB7 : Held (Below w.heap.size w (w6.drewN n7)) := ⟨below_drewN HB6.out _⟩
  clear HLf
  generalize w6.drewN n7 = w7 at *
  go_wp2_with fail
  refine (od_take b 50 40 400 50 499 _ [(30, 300), (20, 200)] [(30, 300), (20, 200), (40, 400)] best4 (by decide) (by decide) (by decide) (by decide) (by decide) w _ HO7.out HB7.out HLe.out).mono ?_
  rintro e w8 ⟨rfl, ⟨v8, ho8⟩, hb8⟩
  have HO8 := Held.mk ho8
  have HB8 := Held.mk hb8
  clear ho8 hb8
  go_wp2_with fail
  refine (od_take b 90 10 100 50 500 _ [(30, 300), (20, 200), (40, 400)] [(30, 300), (20, 200), (40, 400), (10, 100)] best5 (by decide) (by decide) (by decide) (by decide) (by decide) w _ HO8.out HB8.out HLe.out).mono ?_
  rintro e w9 ⟨rfl, ⟨v9, ho9⟩, hb9⟩
  have HO9 := Held.mk ho9
  have HB9 := Held.mk hb9
  clear ho9 hb9
  go_wp2_with fail
  refine (Parts_in b b 100 1000 10 20 _ _ _ _ w9 HO9.out (by decide)).mono ?_
  rintro e wa ⟨va, rfl, hoa, hba⟩
  obtain ⟨Aa, ca, rfl, _, hra⟩ := RdV.of_own hoa
  have HRa := Held.mk hra
  have HOa := Held.mk hoa
  have HBa := Held.mk (HB9.out.trans (hba.mono HB9.out.size))
  clear hoa hba hra
  go_wp2_with fail
  refine (moneys_in _ Aa 4 ca [(30, 300), (20, 200), (40, 400), (10, 100)] wa HRa.out rfl (fun k hk => own_lt HOa.out k hk) (by decide)).mono ?_
  rintro e wb ⟨vb, rfl, hob, hbb⟩
  obtain ⟨Ab, cb, rfl, _, hrb⟩ := RdV.of_own hob
  have HRb : Held (∀ o, RdN (wb.alloc o) _ .i64 Ab 8 [30, 300, 20, 200, 40, 400, 10, 100]) := ⟨fun o => RdN.keep hrb ((Keep.refl (fun _ => False) _).alloc o) (fun _ _ h => h)⟩
  have HBb := Held.mk (HBa.out.trans (hbb.mono HBa.out.size))
  have HRc : Held (RdN (wb.alloc (.cells #[.int .i64 30, .int .i64 300, .int .i64 20, .int .i64 200, .int .i64 40, .int .i64 400, .int .i64 10, .int .i64 100] 2)) _ .i64 (some ⟨wb.heap.size, 0, none⟩) 8 [30, 300, 20, 200, 40, 400, 10, 100]) := ⟨rd_lit wb (nums .i64 [30, 300, 20, 200, 40, 400, 10, 100]) 1 8 2 rfl⟩
  clear hob hbb hrb
  go_wp2_with fail
  refine (sameLongs_in _ _ Ab _ 8 cb 8 [30, 300, 20, 200, 40, 400, 10, 100] _ (HRb.out _) HRc.out (by decide)).mono ?_
  rintro e wc ⟨rfl, nc, rfl⟩
  have HBc := Held.mk (below_drewN (HBb.out.alloc HBb.out.size (.cells #[.int .i64 30, .int .i64 300, .int .i64 20, .int .i64 200, .int .i64 40, .int .i64 400, .int .i64 10, .int .i64 100] 2)) nc)
  clear HRb HRc
  generalize (wb.alloc (.cells #[.int .i64 30, .int .i64 300, .int .i64 20, .int .i64 200, .int .i64 40, .int .i64 400, .int .i64 10, .int .i64 100] 2)).drewN nc = wc at *
  go_wp2_with fail
  refine (HL1.out _).mono ?_
  rintro e wd ⟨vd, rfl, hod, hbd⟩
  obtain ⟨Ad, cd, rfl, _, hrd⟩ := RdV.of_own hod
  have HRd := Held.mk hrd
  have HBd := Held.mk (HBc.out.trans (hbd.mono HBc.out.size))
  clear hod hbd hrd
  go_wp2_with fail
  refine (HL2.out _).mono ?_
  rintro e we ⟨ve, rfl, hoe, hbe⟩
  have HBe := Held.mk (HBd.out.trans (hbe.mono HBd.out.size))
  have HRe : Held (∀ o, RdLg (we.alloc o) _ Ad [⟨1, 2, 5, 10, 0⟩, ⟨2, 1, 0, 70, 0⟩]) := ⟨fun o => HRd.out.keep ((Keep.of_below hbe (fun _ => False)).alloc o) (fun _ _ h => h)⟩
  have HRf : Held (RdLg (we.alloc (.cells #[.int .i64 1, .int .i64 2, .int .i64 5, .int .i64 10, .int .i64 0, .int .i64 2, .int .i64 1, .int .i64 0, .int .i64 70, .int .i64 0] 76)) _ (some ⟨we.heap.size, 0, none⟩) [⟨1, 2, 5, 10, 0⟩, ⟨2, 1, 0, 70, 0⟩]) := ⟨rd_lit we (List.flatMap Lg.cells [⟨1, 2, 5, 10, 0⟩, ⟨2, 1, 0, 70, 0⟩]) 5 2 76 rfl⟩
  clear hoe hbe
  go_wp2_with fail
  refine (sameLegs_in _ _ Ad _ cd 2 [⟨1, 2, 5, 10, 0⟩, ⟨2, 1, 0, 70, 0⟩] _ (HRe.out _) HRf.out (by decide)).mono ?_
  rintro e wf ⟨rfl, nf, rfl⟩
  have HBf := Held.mk (below_drewN (HBe.out.alloc HBe.out.size (.cells #[.int .i64 1, .int .i64 2, .int .i64 5, .int .i64 10, .int .i64 0, .int .i64 2, .int .i64 1, .int .i64 0, .int .i64 70, .int .i64 0] 76)) nf)
  clear HRe HRf
  generalize (we.alloc (.cells #[.int .i64 1, .int .i64 2, .int .i64 5, .int .i64 10, .int .i64 0, .int .i64 2, .int .i64 1, .int .i64 0, .int .i64 70, .int .i64 0] 76)).drewN nf = wf at *
  go_wp2_with fail
  refine (HPe.out _ (HG.out.below HBf.out)).mono ?_
  rintro e wg ⟨rfl, hbg⟩
  have HBg := Held.mk (HBf.out.trans (hbg.mono HBf.out.size))
  clear hbg
  go_wp2_with fail
  refine (HW.out _).mono ?_
  rintro e wh ⟨rfl, nh, rfl⟩
  go_wp2
  go_ret
  exact ⟨rfl, below_drewN HBg.out _⟩
end Prt
end Go.Proofs.YtpbkmkclagikhaaDoor
