/- PartialLegs: the walk. -/
import Derived.Test.YtpbkmkclagikhaaDoorApt
namespace Go.Proofs.YtpbkmkclagikhaaDoor
set_option linter.unusedVariables false
set_option linter.unusedSimpArgs false
namespace Prt
open Go.RowKit Mem Dvs Err Aps
theorem legs_few {x0 x1 x2 x3 x4 x5 k : Int} {L : List Lg} (h : LegsR x0 x1 x2 x3 x4 x5 k L) : 0 ≤ k ∧ k ≤ 24 ∧ L.length ≤ 2 := by
  unfold LegsR at h
  rcases h with ⟨c0, rfl, rfl⟩ | ⟨c0, c1, rfl, rfl⟩ | ⟨c0, c1, c2, rfl, rfl⟩ | ⟨c0, c1, c2, c3, rfl, rfl⟩ | ⟨c0, c1, c2, c3, c4, rfl, rfl⟩ | ⟨c0, c1, c2, c3, c4, c5, rfl, rfl⟩ | ⟨c0, c1, c2, c3, c4, c5, c6, rfl, rfl⟩ | ⟨c0, c1, c2, c3, c4, c5, c6, c7, rfl, rfl⟩ | ⟨c0, c1, c2, c3, c4, c5, c6, c7, c8, rfl, rfl⟩ | ⟨c0, c1, c2, c3, c4, c5, c6, c7, c8, rfl, rfl⟩ <;> simp
theorem plain_errV (k : Int) (h0 : 0 ≤ k) (h1 : k ≤ 24) (w : World) (hg : Laid w) : Calls Tryd.prog 11 #[errV k, .int .i64 k] w fun e w' => e = .returned (.bool true) ∧ Below w.heap.size w w' := by
  unfold errV
  by_cases hk : k = 0
  · subst hk
    rw [if_pos rfl]
    exact plain_nil 0 w
  · rw [if_neg hk]
    have := plain_err _ _ k k w (isErr_wrong k) (by omega) h1 hg
    rw [beq_self_eq_true] at this
    exact this
set_option maxHeartbeats 4000000 in
set_option maxRecDepth 100000 in
theorem legsLaw_any (x0 x1 x2 x3 x4 x5 : Int) (w : World) (hg : Laid w) :
    Calls Tryd.prog 5 #[.agg #[.int .i64 x0, .int .i64 x1, .int .i64 x2, .int .i64 x3, .int .i64 x4, .int .i64 x5]] w fun e w' => e = .returned (.bool true) ∧ Below w.heap.size w w' := by
  obtain ⟨k, L, hR⟩ := legs_all x0 x1 x2 x3 x4 x5
  obtain ⟨hk0, hk1, hL⟩ := legs_few hR
  have HB0 : Held (Below w.heap.size w (w.alloc (.cells #[.int .i64 x0, .int .i64 x1, .int .i64 x2, .int .i64 x3, .int .i64 x4, .int .i64 x5] 33))) := ⟨(Below.refl _ _).alloc (Nat.le_refl _) _⟩
  have HG := Held.mk (hg.below HB0.out)
  have HX0 := Held.mk (Blk.new w 33 #[.int .i64 x0, .int .i64 x1, .int .i64 x2, .int .i64 x3, .int .i64 x4, .int .i64 x5])
  have HW := Held.mk works_any
  have HL := Held.mk hL
  have HA := Held.mk (fun w => legs_in x0 x1 x2 x3 x4 x5 k L w hR)
  have HRf := Held.mk (fun w => rlegs_in x0 x1 x2 x3 x4 x5 k L w hR)
  have HP := Held.mk (fun w hg => plain_errV k hk0 hk1 w hg)
  have HSm := Held.mk (fun (ok ok2 : Nat → Prop) A A2 c c2 w hr hr2 => sameLegs_in ok ok2 A A2 c c2 L w hr hr2 (by omega))
  clear hR hk0 hk1 hL hg
  generalize errV k = ev at *
  go_enter Tryd.func5, Tryd.ntmps5
  go_wp2_with fail
  generalize w.alloc (.cells #[.int .i64 x0, .int .i64 x1, .int .i64 x2, .int .i64 x3, .int .i64 x4, .int .i64 x5] 33) = w0 at *
  generalize hgs : w.heap.size = g at *
  refine (HRf.out _).mono ?_
  rintro e w1 ⟨v1, rfl, ho1, hb1⟩
  obtain ⟨A1, c1, rfl, _, hr1⟩ := RdV.of_own ho1
  have HR1 := Held.mk hr1
  have HO1 := Held.mk ho1
  have HB1 := Held.mk hb1
  have HX1 := Held.mk (HX0.out.keep (Keep.of_below hb1 (fun _ => False)) (fun h => h))
  clear ho1 hb1 hr1
  have k0 := HX1.out.cell 0
  have k1 := HX1.out.cell 1
  have k2 := HX1.out.cell 2
  have k3 := HX1.out.cell 3
  have k4 := HX1.out.cell 4
  have k5 := HX1.out.cell 5
  simp at k0 k1 k2 k3 k4 k5
  go_wp2_with fail
  refine (HA.out _).mono ?_
  rintro e w2 ⟨v2, rfl, ho2, hb2⟩
  obtain ⟨A2, c2, rfl, _, hr2⟩ := RdV.of_own ho2
  have HR2 := Held.mk hr2
  have HO2 := Held.mk ho2
  have HB2 := Held.mk hb2
  have HX2 := Held.mk (HX1.out.keep (Keep.of_below hb2 (fun _ => False)) (fun h => h))
  clear ho2 hb2 hr2 k0 k1 k2 k3 k4 k5
  have k0 := HX2.out.cell 0
  have k1 := HX2.out.cell 1
  have k2 := HX2.out.cell 2
  have k3 := HX2.out.cell 3
  have k4 := HX2.out.cell 4
  have k5 := HX2.out.cell 5
  simp at k0 k1 k2 k3 k4 k5
  go_wp2_with fail
  refine (HA.out _).mono ?_
  rintro e w3 ⟨v3, rfl, ho3, hb3⟩
  obtain ⟨A3, c3, rfl, _, hr3⟩ := RdV.of_own ho3
  have HB13 : Held (Below w1.heap.size w1 w3) := ⟨HB2.out.trans (hb3.mono HB2.out.size)⟩
  have HB03 : Held (Below w0.heap.size w0 w3) := ⟨HB1.out.trans (HB13.out.mono HB1.out.size)⟩
  have HG3 := Held.mk (HG.out.below HB03.out)
  have HW3 : Held (RdLg w3 _ A1 L) := ⟨HR1.out.keep (Keep.of_below HB13.out (fun _ => False)) (fun _ _ h => h)⟩
  have HR23 : Held (RdLg w3 _ A2 L) := ⟨HR2.out.keep (Keep.of_below hb3 (fun _ => False)) (fun _ _ h => h)⟩
  have HR33 : Held (RdLg w3 _ A3 L) := ⟨hr3⟩
  have HO23 := Held.mk ((Keep.of_below hb3 (fun _ => False)).own HO2.out (fun _ _ h => h))
  have HO33 := Held.mk ho3
  have HB3 := Held.mk hb3
  clear ho3 hb3 hr3 k0 k1 k2 k3 k4 k5
  go_wp2_with fail
  refine (HP.out _ HG3.out).mono ?_
  rintro e w4 ⟨rfl, hb4⟩
  have HB4 := Held.mk hb4
  clear hb4
  go_wp2_with fail
  refine (HP.out _ (HG3.out.below HB4.out)).mono ?_
  rintro e w5 ⟨rfl, hb5⟩
  have HB5 : Held (Below w3.heap.size w3 w5) := ⟨HB4.out.trans (hb5.mono HB4.out.size)⟩
  have HS : Held (∀ n, RdLg (w5.drewN n) _ A1 L ∧ RdLg (w5.drewN n) _ A2 L ∧ RdLg (w5.drewN n) _ A3 L) := ⟨fun n => ⟨HW3.out.keep (Keep.of_below (below_drewN HB5.out n) (fun _ => False)) (fun _ _ h => h), HR23.out.keep (Keep.of_below (below_drewN HB5.out n) (fun _ => False)) (fun _ _ h => h), HR33.out.keep (Keep.of_below (below_drewN HB5.out n) (fun _ => False)) (fun _ _ h => h)⟩⟩
  clear hb5 HB4
  go_wp2_with fail
  refine (HSm.out _ _ _ _ _ _ _ (HS.out 0).2.1 (HS.out 0).1).mono ?_
  rintro e w6 ⟨rfl, n6, rfl⟩
  go_wp2_with fail
  refine (HSm.out _ _ _ _ _ _ _ (HS.out n6).2.2 (HS.out n6).1).mono ?_
  rintro e w7 ⟨rfl, n7, rfl⟩
  have HB7 : Held (Below w3.heap.size w3 ((w5.drewN n6).drewN n7)) := ⟨below_drewN (below_drewN HB5.out n6) n7⟩
  clear HS HB5
  generalize (w5.drewN n6).drewN n7 = w7 at *
  go_wp2_with fail
  subst hgs
  have HRa := rd_lit w7 [.slice A2 L.length c2, .slice A3 L.length c3] 1 2 34 rfl
  have HOa2 := ((Keep.of_below (HB3.out.trans (HB7.out.mono HB3.out.size)) (fun _ => False)).own HO2.out (fun _ _ h => h)).alloc (.cells #[.slice A2 L.length c2, .slice A3 L.length c3] 34)
  have HOa3 := ((Keep.of_below HB7.out (fun _ => False)).own HO33.out (fun _ _ h => h)).alloc (.cells #[.slice A2 L.length c2, .slice A3 L.length c3] 34)
  have HOb2 := (Keep.of_below (HB3.out.trans (HB7.out.mono HB3.out.size)) (fun _ => False)).own HO2.out (fun _ _ h => h)
  have HOb3 := (Keep.of_below HB7.out (fun _ => False)).own HO33.out (fun _ _ h => h)
  have hs1 := HB0.out.size
  have hs2 := HB1.out.size
  have hs3 := HB2.out.size
  have hs4 := HB3.out.size
  have hs5 := HB7.out.size
  have hLn := HL.out
  have hO : ∀ b, Tch (two_ (.slice A2 L.length c2) (.slice A3 L.length c3)) 2 b → ¬ b = w7.heap.size := by
    intro b h e
    subst e
    rcases two_tch h with h | h
    · have := own_lt HOb2 _ h
      omega
    · have := own_lt HOb3 _ h
      omega
  refine (apart_in w1.heap.size 2 _ 2 (two_ (.slice A2 L.length c2) (.slice A3 L.length c3)) (fun _ => L.length) (fun b => b = w7.heap.size) _ HRa (by simp; omega) ?_ (two_fst fun b h2 h3 => by have := own_lt HO2.out b h2; have := own_ge HO33.out b h3; omega)
    hO (by omega) (fun _ => by omega)).mono ?_
  · intro j hj
    have hc : j = 0 ∨ j = 1 := by omega
    rcases hc with rfl | rfl
    · exact ⟨_, HOa2⟩
    · exact ⟨_, own_rebase HOa3 (fun k hk => by have := own_ge HOa3 k hk; omega)⟩
  rintro e w8 ⟨rfl, hk8⟩
  have HB8 : Held (Below w.heap.size w w8) := ⟨by
    have b1 : Below w.heap.size w (w7.alloc (.cells #[.slice A2 L.length c2, .slice A3 L.length c3] 34)) := by
      exact ((HB0.out.trans (HB03.out.mono hs1)).trans (HB7.out.mono (by omega))).alloc (by omega) _
    refine ((Keep.of_below b1 (fun _ => False)).then hk8 (fun i hi h => ?_)).to_below (fun _ _ h => h)
    rcases two_tch h with h | h
    · have := own_ge HO2.out _ h; omega
    · have := own_ge HO33.out _ h; omega⟩
  clear HRa HOa2 HOa3 HOb2 HOb3 hk8 hs1 hs2 hs3 hs4 hs5 hLn
  go_wp2_with fail
  refine (HW.out _).mono ?_
  rintro e w9 ⟨rfl, n9, rfl⟩
  go_wp2
  go_ret
  exact ⟨rfl, below_drewN HB8.out _⟩
end Prt
end Go.Proofs.YtpbkmkclagikhaaDoor
