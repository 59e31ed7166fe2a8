/- What is asked of two orders: walked. -/
import Derived.Test.YtpbkmkclagikhaaDoorMns
namespace Go.Proofs.YtpbkmkclagikhaaDoor
set_option linter.unusedVariables false
set_option linter.unusedSimpArgs false
namespace Prt
open Go.RowKit Mem Dvs Err
set_option maxHeartbeats 4000000 in
set_option maxRecDepth 100000 in
theorem asked_in (bo br B B2 q a l m d : Nat) (v vr : Value) (xs : List (Nat × Nat)) (w : World) (ho : Ord w bo B q a l m d (shr q a d) v xs) (hr : ROrd w br B2 q a l m d (shr q a d) vr xs)
    (hq : 0 < q) (hd : d ≤ q) (hqm : q ≤ 9223372036854775807) (ha : a ≤ 9223372036854775807) (hx : xs.length ≤ 12000000000000) :
    Calls Tryd.prog 24 #[.pointer (some ⟨B, 0, none⟩), .pointer (some ⟨B2, 0, none⟩)] w fun e w' => e = .returned (.bool true) ∧ Below w.heap.size w w' := by
  have hp : shr q a d ≤ a := shr_le hq hd
  have HLf := Held.mk (Left_in bo B q a l m d (shr q a d) v xs w ho hd hp hqm ha)
  have HP := Held.mk (fun w (h : Ord w bo B q a l m d (shr q a d) v xs) => Parts_in bo B q a l m d (shr q a d) v xs w h (by omega))
  have HMs := Held.mk (fun (ok : Nat → Prop) A c w (hr : RdV w ok 2 A xs.length (prs xs)) (hok : ∀ k, ok k → k < w.heap.size) => moneys_in ok A xs.length c xs w hr rfl hok (by omega))
  have HSm := Held.mk (fun (ok ok2 : Nat → Prop) A A2 c c2 w hr hr2 => sameLongs_in ok ok2 A A2 (xs.length * 2) c c2 (flat xs) w hr hr2 (by omega))
  have HO := Held.mk ho
  have HR := Held.mk hr
  have HX := Held.mk hx
  have i1 : (d : Int) ≤ (q : Int) := by omega
  have i2 : (shr q a d : Int) ≤ (a : Int) := by omega
  have i3 : (q : Int) ≤ 9223372036854775807 := by omega
  have i4 : (a : Int) ≤ 9223372036854775807 := by omega
  have hnI : (xs.length : Int) ≤ 9223372036854775807 := by omega
  obtain ⟨Ar, cr, rfl, hcr, hrr⟩ := RdV.of_own hr.own
  have HRr := Held.mk hrr
  clear ho hr hx hp hqm ha hq hd hrr
  generalize shr q a d = p at *
  go_enter Tryd.func24, Tryd.ntmps24
  go_wp2_with fail
  refine HLf.out.mono ?_
  rintro e w1 ⟨rfl, n1, rfl⟩
  have HO1 : Held (Ord (w.drewN n1) bo B q a l m d p v xs) := ⟨⟨HO.out.blk, HO.out.ge, HO.out.own⟩⟩
  have HB1 : Held (Below w.heap.size w (w.drewN n1)) := ⟨below_drewN (Below.refl _ _) _⟩
  generalize w.drewN n1 = w1 at *
  go_wp2_with fail
  refine (HP.out _ HO1.out).mono ?_
  rintro e w2 ⟨v1, rfl, ho1, hb1⟩
  have HB2 := Held.mk (HB1.out.trans (hb1.mono HB1.out.size))
  have HO2 := Held.mk (HO1.out.below hb1)
  have HV1 := Held.mk ho1
  have HS1 := Held.mk HB1.out.size
  have HZ2 := Held.mk hb1.size
  clear ho1 hb1 HO1 HB1
  go_wp2_with fail
  refine (HP.out _ HO2.out).mono ?_
  rintro e w3 ⟨v2, rfl, ho2, hb2⟩
  have HB3 := Held.mk (HB2.out.trans (hb2.mono HB2.out.size))
  have HB23 := Held.mk hb2
  have HV2 := Held.mk ho2
  have HR3 := Held.mk (HR.out.below HB3.out)
  clear ho2 hb2 HO2
  have k6 := HR3.out.blk.cell 6
  simp at k6
  go_wp2_with fail
  have HRr3 := Held.mk (HRr.out.keep (Keep.of_below HB3.out (fun _ => False)) (fun _ _ h => h))
  refine (HMs.out _ Ar cr w3 HRr3.out (fun k hk => own_lt HR3.out.own k hk)).mono ?_
  rintro e w4 ⟨v3, rfl, ho3, hb3⟩
  have HB4 := Held.mk (HB3.out.trans (hb3.mono HB3.out.size))
  have HB34 := Held.mk hb3
  have HR4 := Held.mk (HR3.out.below hb3)
  obtain ⟨A1, c1, rfl, hc1, hr1⟩ := RdV.of_own HV1.out
  obtain ⟨A2, c2, rfl, hc2, hr2⟩ := RdV.of_own HV2.out
  obtain ⟨A3, c3, rfl, hc3, hr3⟩ := RdV.of_own ho3
  rw [prs_flat] at hr3
  have HV3 := Held.mk ho3
  have HM : Held (∀ A c, ((A = A1 ∧ c = c1) ∨ (A = A2 ∧ c = c2)) → ∀ w', Below w4.heap.size w4 w' → Calls Tryd.prog 41 #[.slice A xs.length c] w' fun e w'' => ∃ v', e = .returned v' ∧ w''.ownsRow w'.heap.size 2 1 v' (xs.length * 2) (prs xs) ∧ Below w'.heap.size w' w'') := ⟨by
    rintro A c (⟨rfl, rfl⟩ | ⟨rfl, rfl⟩) w' hb
    · have b1 := HB23.out.trans (hb3.mono HB23.out.size)
      have b2 := b1.trans (hb.mono b1.size)
      exact HMs.out _ _ _ _ (hr1.keep (Keep.of_below b2 (fun _ => False)) (fun _ _ h => h)) (fun k hk => by have := own_lt HV1.out k hk; have := b2.size; omega)
    · have b2 := hb3.trans (hb.mono hb3.size)
      exact HMs.out _ _ _ _ (hr2.keep (Keep.of_below b2 (fun _ => False)) (fun _ _ h => h)) (fun k hk => by have := own_lt HV2.out k hk; have := b2.size; omega)⟩
  have HW : Held (∀ w', Below w4.heap.size w4 w' → RdN w' _ .i64 A3 (xs.length * 2) (flat xs)) := ⟨fun w' hb => RdN.keep hr3 (Keep.of_below hb (fun _ => False)) (fun _ _ h => h)⟩
  have HRd2 := Held.mk hr2
  have HRd3 := Held.mk hr3
  clear hb3 hr1 hr2 hr3 ho3 HRr3 HRr k6 HR3
  have k0 := HR4.out.blk.cell 0
  have k1 := HR4.out.blk.cell 1
  have k4 := HR4.out.blk.cell 4
  have k5 := HR4.out.blk.cell 5
  simp at k0 k1 k4 k5
  have hB : Below w4.heap.size w4 w4 := Below.refl _ _
  have hw1 : IntKind.i64.wrap ((q : Int) - (d : Int)) = (q : Int) - (d : Int) := IntWalk.i64_in _ ⟨by omega, by omega⟩
  have hw2 : IntKind.i64.wrap ((a : Int) - (p : Int)) = (a : Int) - (p : Int) := IntWalk.i64_in _ ⟨by omega, by omega⟩
  go_wp2_with fail
  go_region_held3 (fun w' => w'.cell? ⟨B2, 0, none⟩ = some (.int .i64 q) ∧ w'.cell? ⟨B2, 1, none⟩ = some (.int .i64 a) ∧ w'.cell? ⟨B2, 4, none⟩ = some (.int .i64 d) ∧ w'.cell? ⟨B2, 5, none⟩ = some (.int .i64 p)) (go_keep)
    (first
      | (go_at_call 41; refine (HM.out _ _ (by first | exact .inl ⟨rfl, rfl⟩ | exact .inr ⟨rfl, rfl⟩) _ (by first | exact hB | exact below_drew hB)).mono ?_; rintro e w5 ⟨v5, rfl, ho5, hb5⟩; have hB := Below.trans (by first | exact hB | exact below_drew hB) (hb5.mono (by exact hB.size)); have k0 := (Keep.of_below hb5 (fun _ => False)).cell (by exact k0) (fun h => h); have k1 := (Keep.of_below hb5 (fun _ => False)).cell (by exact k1) (fun h => h); have k4 := (Keep.of_below hb5 (fun _ => False)).cell (by exact k4) (fun h => h); have k5 := (Keep.of_below hb5 (fun _ => False)).cell (by exact k5) (fun h => h); obtain ⟨A5, c5, rfl, hc5, hr5⟩ := RdV.of_own ho5; rw [prs_flat] at hr5)
      | (go_at_call 42; refine (HSm.out _ _ _ _ _ _ _ (by exact hr5) (by first | exact HW.out _ hB | exact HW.out _ (below_drew hB))).mono ?_; rintro e w6 ⟨rfl, n6, rfl⟩; have hB := below_drewN (by exact hB) n6))
  have HB4W : Held (Below w4.heap.size w4 (w5.drewN n6)) := ⟨hB⟩
  clear hb5 ho5 hc5 hr5 k0 k1 k4 k5 hw1 hw2 hB
  generalize w5.drewN n6 = W at *
  have HB2W : Held (Below w2.heap.size w2 W) := ⟨by
    have b1 := HB23.out.trans (HB34.out.mono HB23.out.size)
    exact b1.trans (HB4W.out.mono b1.size)⟩
  have HLW : Held (Below w.heap.size w W) := ⟨HB4.out.trans (HB4W.out.mono HB4.out.size)⟩
  have HVW : Held (W.ownsRow w1.heap.size 62 2 (.slice A1 xs.length c1) xs.length (prs xs)) := ⟨(Keep.of_below HB2W.out (fun _ => False)).own HV1.out (fun _ _ h => h)⟩
  have HRb : Held (∀ wr, Keep (fun k => (Value.slice A1 xs.length c1).ownBlock = some k) W wr → RdV wr (fun k => (Value.slice A2 xs.length c2).ownBlock = some k ∧ k < W.heap.size) 2 A2 xs.length (prs xs)) := ⟨fun wr hk => by
    have b1 := HB34.out.trans (HB4W.out.mono HB34.out.size)
    have r1 := HRd2.out.keep (Keep.of_below b1 (fun _ => False)) (fun _ _ h => h)
    have r2 := r1.keep hk (fun k h2 h1 => by
      have := own_lt HV1.out k h1
      have := own_ge HV2.out k h2
      omega)
    exact r2.mono (fun k h2 => ⟨h2, by have := own_lt HV2.out k h2; have := b1.size; omega⟩)⟩
  have HRw : Held (∀ wr, Keep (fun k => (Value.slice A1 xs.length c1).ownBlock = some k) W wr → RdN wr (fun k => (Value.slice A3 (xs.length * 2) c3).ownBlock = some k) .i64 A3 (xs.length * 2) (flat xs)) := ⟨fun wr hk => by
    have r1 := HRd3.out.keep (Keep.of_below HB4W.out (fun _ => False)) (fun _ _ h => h)
    exact r1.keep hk (fun k h2 h1 => by
      have := own_lt HV1.out k h1
      have := own_ge HV3.out k h2
      have := HB23.out.size
      omega)⟩
  have HGe : Held (∀ k, (Value.slice A1 xs.length c1).ownBlock = some k → w.heap.size ≤ k) := ⟨fun k hk => by have := own_ge HV1.out k hk; have := HS1.out; omega⟩
  have HFin : Held (∀ wr, Keep (fun k => (Value.slice A1 xs.length c1).ownBlock = some k) W wr → Below w.heap.size w wr) := ⟨fun wr hk =>
    ((Keep.of_below HLW.out (fun _ => False)).then hk (fun i hi h => by have := HGe.out i h; omega)).to_below (fun _ _ h => h)⟩
  have HS1W : Held (w1.heap.size ≤ W.heap.size) := ⟨by
    rcases Nat.lt_or_ge W.heap.size w1.heap.size with h | h
    · have h2 := HLW.out.size
      have h3 := HS1.out
      have h4 := HB2W.out.size
      have h5 := HZ2.out
      omega
    · exact h⟩
  clear HR4 HM HW HRd2 HRd3 HB4W HB34 HB23 HB4 HB3 HB2 HO HP HLf
  go_wp2_with fail
  go_loopw [10] (fun i wr => ∃ (k : Nat) (ys : List Value), i = .int .i64 k ∧ k ≤ xs.length ∧ Held (wr.ownsRow w1.heap.size 62 2 (.slice A1 xs.length c1) xs.length ys) ∧ Held (Keep (fun k => (Value.slice A1 xs.length c1).ownBlock = some k) W wr)) (fun i _ => xs.length - (intOf i).toNat)
  case atStart => exact ⟨0, _, rfl, Nat.zero_le _, HVW, ⟨Keep.refl _ _⟩⟩
  case round =>
    obtain ⟨k, ys, rfl, hk, HOa, HKa⟩ := hrel
    by_cases hlt : k < xs.length
    · obtain ⟨g, cap, hv, _, _⟩ := HOa.out.form (show 0 < xs.length by omega)
      injection hv with hv1 hv2 hv3
      subst hv1
      have hl := HOa.out.1
      have c1' := HOa.out.cellAt (k * 2) (by omega)
      have c2' := HOa.out.cellAt (k * 2 + 1) (by omega)
      rw [List.getElem?_eq_getElem (by omega)] at c1' c2'
      have f1' := HOa.out.frozenAt (k * 2)
      have f2' := HOa.out.frozenAt (k * 2 + 1)
      generalize ys[k * 2] = y1 at *
      generalize ys[k * 2 + 1] = y2 at *
      have HO3 := Held.mk ((HOa.out.stored (k * 2) (.int .i64 (-1))).1.stored (k * 2 + 1) (.int .i64 (-1))).1
      have HK3 : Held (Keep (fun k => (Value.slice (some ⟨g, 0, none⟩) xs.length c1).ownBlock = some k) W ((wr.setCell ⟨g, k * 2, none⟩ (.int .i64 (-1))).setCell ⟨g, k * 2 + 1, none⟩ (.int .i64 (-1)))) := ⟨(HKa.out.setCell (p := ⟨g, k * 2, none⟩) (fun _ => rfl) _).setCell (p := ⟨g, k * 2 + 1, none⟩) (fun _ => rfl) _⟩
      clear hl
      go_wp2_with fail
      go_roundw
      case rel => exact ⟨k + 1, _, by go_num, by omega, HO3, HK3⟩
      case measure => simp [intOf]; omega
    · clear HVW
      go_wp2_with fail
      go_loopw [7, 11] (fun u i wr => ∃ (k : Nat) (ys : List Value), i = .int .i64 k ∧ k ≤ 9 ∧ Held (wr.ownsRow w1.heap.size 62 2 u (xs.length + k) ys) ∧ Held (Keep (fun k => (Value.slice A1 xs.length c1).ownBlock = some k) W wr) ∧ Held (∀ b, u.ownBlock = some b → b < W.heap.size → (Value.slice A1 xs.length c1).ownBlock = some b)) (fun _ i _ => 9 - (intOf i).toNat)
      case atStart => exact ⟨0, ys, rfl, by omega, HOa, HKa, ⟨fun b hb _ => hb⟩⟩
      case round =>
        clear HOa HKa
        obtain ⟨k2, ys2, rfl, hk2, HOb, HKb, HSb⟩ := hrel
        obtain ⟨A7, c7, rfl, _⟩ := own_slice HOb.out
        by_cases hlt2 : k2 < 9
        · have HOal : Held ((wr.alloc (.cells #[.int .i64 (-2), .int .i64 (-2)] 62)).ownsRow w1.heap.size 62 2 (.slice A7 (xs.length + k2) c7) (xs.length + k2) ys2) := ⟨HOb.out.alloc _⟩
          have HRd : Held (RdV (wr.alloc (.cells #[.int .i64 (-2), .int .i64 (-2)] 62)) (fun _ => True) 2 (some ⟨wr.heap.size, 0, none⟩) 1 [.int .i64 (-2), .int .i64 (-2)]) :=
            ⟨rfl, fun _ => ⟨_, rfl, trivial, World.news_of_block (cs := #[.int .i64 (-2), .int .i64 (-2)]) (t := 62) (fr := (0, 0)) (heap_alloc_new _ _)⟩⟩
          have HC3 : Held (((xs.length + k2 + 1) + (xs.length + k2 + 1) / 4 + 192) * 16 ≤ 281474976710656) := ⟨by have := HX.out; omega⟩
          have HC4 : Held (w1.heap.size ≤ (wr.alloc (.cells #[.int .i64 (-2), .int .i64 (-2)] 62)).heap.size) := ⟨by have h1 := HS1W.out; have h2 := HKb.out.size; simp; omega⟩
          go_wp2_with ((at_builtin; go_loud (refine appS _ w1.heap.size rfl (.tmp 78) (.tmp 80) 60 62 (.agg #[.int .i64 0, .int .i64 0]) 2 16 rfl Tryd.underlying60 info_two rfl (by decide) (by decide) _ (xs.length + k2) ys2 rfl HOal.out (fun _ => True) (some ⟨wr.heap.size, 0, none⟩) 1 1 [.int .i64 (-2), .int .i64 (-2)] rfl HRd.out (two_one _ _) HC3.out HC4.out ?_)); (intro v2 w3 ho3 hg3 hat3); (have HO3 := Held.mk ho3); (have HG3 := Held.mk hg3); (have HA3 := Held.mk hat3); (clear ho3 hg3 hat3))
          go_roundw
          case rel =>
            refine ⟨k2 + 1, _, by go_num, by omega, ⟨HO3.out⟩, ⟨(HKb.out.alloc _).grown (by exact HG3.out) (fun b hb e => HSb.out b e hb)⟩, ⟨fun b hb hlt => ?_⟩⟩
            rcases (by exact HA3.out : v2.ownBlock = (Value.slice A7 (xs.length + k2) c7).ownBlock ∨ ∃ b, v2.ownBlock = some b ∧ (wr.alloc (.cells #[.int .i64 (-2), .int .i64 (-2)] 62)).heap.size ≤ b) with h | ⟨b', h, hb'⟩
            · exact HSb.out b (by rw [← h]; exact hb) hlt
            · rw [hb] at h
              injection h with h
              have := HKb.out.size
              simp at hb'
              omega
          case measure => simp [intOf]; omega
        · clear HOb HSb
          go_wp2_with fail
          refine (HMs.out _ A2 c2 wr (HRb.out _ HKb.out) (fun k hk => by have := hk.2; have := HKb.out.size; omega)).mono ?_
          rintro e w8 ⟨v8, rfl, ho8, hb8⟩
          obtain ⟨A8, c8, rfl, hc8, hr8⟩ := RdV.of_own ho8
          rw [prs_flat] at hr8
          have HK8 := Held.mk (HKb.out.below hb8)
          have HR8 := Held.mk hr8
          clear ho8 hb8 hr8
          go_wp2_with fail
          refine (HSm.out _ _ _ _ _ _ _ HR8.out (HRw.out _ HK8.out)).mono ?_
          rintro e w9 ⟨rfl, n9, rfl⟩
          go_wp2
          go_ret
          exact ⟨rfl, below_drewN (HFin.out _ HK8.out) _⟩
end Prt
end Go.Proofs.YtpbkmkclagikhaaDoor
