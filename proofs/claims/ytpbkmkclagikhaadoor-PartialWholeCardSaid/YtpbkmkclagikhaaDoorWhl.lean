/- PartialWhole: the walk. -/
import Derived.Test.YtpbkmkclagikhaaDoorWay
import Derived.Test.YtpbkmkclagikhaaDoorRpt
import Derived.Deep.RegionHeld3
namespace Go.Proofs.YtpbkmkclagikhaaDoor
set_option linter.unusedVariables false
set_option linter.unusedSimpArgs false
namespace Prt
open Go.RowKit Mem Dvs Err
theorem part_pos {t y : Nat} {zs : List (Nat × Nat)} (h : ∀ x ∈ zs, 1 ≤ x.1) : ∀ x ∈ (if t = 0 then zs else zs ++ [(t, y)]), 1 ≤ x.1 := by
  split
  · exact h
  · rename_i h0
    intro x hx
    rcases List.mem_append.1 hx with hx | hx
    · exact h x hx
    · simp at hx; subst hx; simp only; omega
set_option maxHeartbeats 16000000 in
set_option maxRecDepth 100000 in
theorem whole_no (x0 x1 x2 x3 : Int) (A : Option Addr) (n c : Nat) (w : World) (hg : Laid w) (hm : x0 < 1 ∨ x1 < 0 ∨ x2 < 1 ∨ x3 < 0) :
    Calls Tryd.prog 7 #[.agg #[.int .i64 x0, .int .i64 x1, .int .i64 x2, .int .i64 x3], .slice A n c] w fun e w' => e = .returned (.bool true) ∧ Below w.heap.size w w' := by
  have HB0 : Held (Below w.heap.size w (w.alloc (.cells #[.int .i64 x0, .int .i64 x1, .int .i64 x2, .int .i64 x3] 22))) := ⟨(Below.refl _ _).alloc (Nat.le_refl _) _⟩
  have HG := Held.mk (hg.below HB0.out)
  have HX0 := Held.mk (Blk.new w 22 #[.int .i64 x0, .int .i64 x1, .int .i64 x2, .int .i64 x3])
  have HW := Held.mk works_any
  have H1 := Held.mk (fun w => New_no x0 x1 x2 x3 w hm)
  have HP := Held.mk plain_refused
  unfold refusedV at H1 HP
  have hc : (decide (x0 < 1) = true) ∨ (decide (x0 < 1) = false ∧ decide (x1 < 0) = true) ∨ (decide (x0 < 1) = false ∧ decide (x1 < 0) = false ∧ decide (x2 < 1) = true) ∨ (decide (x0 < 1) = false ∧ decide (x1 < 0) = false ∧ decide (x2 < 1) = false ∧ decide (x3 < 0) = true) := by
    simp only [decide_eq_true_eq, decide_eq_false_iff_not]
    omega
  clear hm hg
  go_enter Tryd.func7, Tryd.ntmps7
  go_wp2_with fail
  generalize w.alloc (.cells #[.int .i64 x0, .int .i64 x1, .int .i64 x2, .int .i64 x3] 22) = w0 at *
  refine (H1.out _).mono ?_
  rintro e w1 ⟨rfl, rfl⟩
  go_wp2_with fail
  refine (HW.out _).mono ?_
  rintro e w1 ⟨rfl, n1, rfl⟩
  go_wp2_with fail
  refine (HP.out _ (HG.out.below (below_drewN (Below.refl _ _) _))).mono ?_
  rintro e w2 ⟨rfl, hb⟩
  have HB2 : Held (Below w.heap.size w w2) := ⟨(below_drewN HB0.out n1).trans (hb.mono HB0.out.size)⟩
  have HX2 := Held.mk ((HX0.out.drewN n1).keep (Keep.of_below hb (fun _ => False)) (fun h => h))
  clear hb
  have k0 := HX2.out.cell 0
  have k1 := HX2.out.cell 1
  have k2 := HX2.out.cell 2
  have k3 := HX2.out.cell 3
  simp at k0 k1 k2 k3
  rcases hc with c1 | ⟨c1, c2⟩ | ⟨c1, c2, c3⟩ | ⟨c1, c2, c3, c4⟩
  all_goals
    go_wp2
    go_ret
    exact ⟨rfl, HB2.out⟩
set_option maxHeartbeats 16000000 in
set_option maxRecDepth 100000 in
theorem whole_in (q a l m : Nat) (A : Option Addr) (c : Nat) (ps : List Call) (w : World) (hq : 0 < q) (hl : 0 < l) (hqm : q ≤ 9223372036854775807) (ha : a ≤ 9223372036854775807) (hlm : l ≤ 9223372036854775807) (hmm : m ≤ 9223372036854775807)
    (hr : RdCall w (fun k => k < w.heap.size) A ps) (hgd : ∀ p ∈ ps, p.Good) (hn : ps.length ≤ 4398046511104) :
    Calls Tryd.prog 7 #[.agg #[.int .i64 q, .int .i64 a, .int .i64 l, .int .i64 m], .slice A ps.length c] w fun e w' => e = .returned (.bool true) ∧ Below w.heap.size w w' := by
  have HW := Held.mk works_any
  have HN := Held.mk (fun w => New_in q a l m w hq hl)
  have HT := Held.mk (fun base B d have_ cash v xs w hd hh ho hx => Take_in base B q a l m d have_ cash v xs w ho hq hqm ha hl hd hh hx)
  have HLf := Held.mk (fun base B d p v xs w hd hp ho => Left_in base B q a l m d p v xs w ho hd hp hqm ha)
  have HSL := Held.mk (fun d (hd : d ≤ q) => shr_le (a := a) hq hd)
  have HSA := Held.mk (shr_all (a := a) hq)
  have i1 : (q : Int) ≤ 9223372036854775807 := by omega
  have i2 : (a : Int) ≤ 9223372036854775807 := by omega
  have i3 : (l : Int) ≤ 9223372036854775807 := by omega
  have i4 : (1 : Int) ≤ (q : Int) := by omega
  have i5 : (1 : Int) ≤ (l : Int) := by omega
  have i6 : (m : Int) ≤ 9223372036854775807 := by omega
  have HQ := Held.mk hq
  have HL := Held.mk hl
  have Hr := Held.mk hr
  have Hgd := Held.mk hgd
  have Hn := Held.mk hn
  have hnI : (ps.length : Int) ≤ 9223372036854775807 := by omega
  clear hq hl hqm ha hlm hmm hr hgd hn
  have HB0 : Held (Below w.heap.size w (w.alloc (.cells #[.int .i64 q, .int .i64 a, .int .i64 l, .int .i64 m] 22))) := ⟨(Below.refl _ _).alloc (Nat.le_refl _) _⟩
  have HX0 := Held.mk (Blk.new w 22 #[.int .i64 q, .int .i64 a, .int .i64 l, .int .i64 m])
  have HB1 := Held.mk (HB0.out.alloc (by simp) (.cells #[.int .i64 q, .int .i64 a, .int .i64 l, .int .i64 m, .int .i64 0, .int .i64 0, .slice none 0 0] 80))
  have HX1 := Held.mk (HX0.out.alloc (.cells #[.int .i64 q, .int .i64 a, .int .i64 l, .int .i64 m, .int .i64 0, .int .i64 0, .slice none 0 0] 80))
  have HO1 : Held (Ord ((w.alloc (.cells #[.int .i64 q, .int .i64 a, .int .i64 l, .int .i64 m] 22)).alloc (.cells #[.int .i64 q, .int .i64 a, .int .i64 l, .int .i64 m, .int .i64 0, .int .i64 0, .slice none 0 0] 80)) (w.heap.size + 1) (w.heap.size + 1) q a l m 0 (shr q a 0) (.slice none 0 0) []) := ⟨by
    have hn := Blk.new (w.alloc (.cells #[.int .i64 q, .int .i64 a, .int .i64 l, .int .i64 m] 22)) 80 #[.int .i64 q, .int .i64 a, .int .i64 l, .int .i64 m, .int .i64 0, .int .i64 0, .slice none 0 0]
    rw [World.size_alloc] at hn
    exact ⟨by rw [shr_zero]; exact hn, Nat.le_refl _, own_nil _ _ _ _⟩⟩
  go_enter Tryd.func7, Tryd.ntmps7
  go_wp2_with fail
  refine (HN.out _).mono ?_
  rintro e w1 ⟨rfl, rfl⟩
  rw [World.size_alloc]
  generalize (w.alloc (.cells #[.int .i64 q, .int .i64 a, .int .i64 l, .int .i64 m] 22)).alloc (.cells #[.int .i64 q, .int .i64 a, .int .i64 l, .int .i64 m, .int .i64 0, .int .i64 0, .slice none 0 0] 80) = w1 at *
  go_wp2_with fail
  refine (HW.out _).mono ?_
  rintro e w2 ⟨rfl, n1, rfl⟩
  have HX2 := Held.mk (HX1.out.drewN n1)
  have HO2 : Held (Ord (w1.drewN n1) (w.heap.size + 1) (w.heap.size + 1) q a l m 0 (shr q a 0) (.slice none 0 0) []) := ⟨⟨HO1.out.blk.drewN _, HO1.out.ge, HO1.out.own⟩⟩
  have HB2 := Held.mk (below_drewN HB1.out n1)
  generalize w1.drewN n1 = w2 at *
  clear HX0 HX1 HB0 HB1 HO1
  have k0 := HX2.out.cell 0
  have k1 := HX2.out.cell 1
  simp at k0 k1
  dsimp only
  go_upto_block 0 with fail
  clear k0 k1
  go_cut [7, 8] (fun u v wx => ∃ (d : Nat) (vv : Value) (zs : List (Nat × Nat)), u = .int .i64 ((q : Int) - d) ∧ v = .int .i64 ((a : Int) - shr q a d) ∧ Held (zs.length ≤ ps.length) ∧ Held (Way q a d zs) ∧ Held (∀ x ∈ zs, 1 ≤ x.1) ∧ Held (Ord wx (w.heap.size + 1) (w.heap.size + 1) q a l m d (shr q a d) vv zs) ∧ Held (Blk wx w.heap.size 22 #[.int .i64 q, .int .i64 a, .int .i64 l, .int .i64 m]) ∧ Held (Below w.heap.size w wx))
  case first =>
    go_wp2_with fail
    go_loopw [7, 8, 9] (fun u v i wr => ∃ (j d : Nat) (vv : Value) (zs : List (Nat × Nat)), i = .int .i64 j ∧ u = .int .i64 ((q : Int) - d) ∧ v = .int .i64 ((a : Int) - shr q a d) ∧ j ≤ ps.length ∧ Held (zs.length ≤ j) ∧ Held (Way q a d zs) ∧ Held (∀ x ∈ zs, 1 ≤ x.1) ∧ Held (Ord wr (w.heap.size + 1) (w.heap.size + 1) q a l m d (shr q a d) vv zs) ∧ Held (Blk wr w.heap.size 22 #[.int .i64 q, .int .i64 a, .int .i64 l, .int .i64 m]) ∧ Held (Below w.heap.size w wr)) (fun _ _ i _ => ps.length - (intOf i).toNat)
    case atStart => exact ⟨0, 0, _, [], rfl, by simp, by rw [shr_zero]; simp, Nat.zero_le _, ⟨Nat.le_refl _⟩, ⟨Nat.zero_le _, rfl, by rw [shr_zero]; rfl, fun _ => rfl⟩, ⟨by simp⟩, HO2, HX2, HB2⟩
    case round =>
      obtain ⟨j, d, vv, zs, rfl, rfl, rfl, hjn, Hj, HWy, HPo, HO, HX, HB⟩ := hrel
      by_cases c1 : j < ps.length
      · obtain ⟨ad, rfl, hok, _, hc1, hc2, _⟩ := RdCall.at_ (RdV.keep Hr.out (Keep.of_below HB.out (fun k => ¬ k < w.heap.size)) (fun k hk => by simpa using hk)) c1
        have hgj := Hgd.out _ (List.getElem_mem c1)
        have hhv := hgj.hv
        generalize ps[j].hv = hv at *
        generalize ps[j].cs = cs at *
        have HHv := Held.mk hhv
        have k0 := HX.out.cell 0
        have k1 := HX.out.cell 1
        have k2 := HX.out.cell 2
        have k3 := HX.out.cell 3
        simp at k0 k1 k2 k3
        clear hgj hhv
        obtain ⟨zq, hzq⟩ : ∃ zq : Int, zq = (q : Int) - (d : Int) := ⟨_, rfl⟩
        obtain ⟨zp, hzp⟩ : ∃ zp : Int, zp = (a : Int) - (shr q a d : Nat) := ⟨_, rfl⟩
        rw [← hzq, ← hzp]
        have HZQ := Held.mk hzq
        have HZP := Held.mk hzp
        clear hzq hzp
        have hok2 : (ad.add (j * 4)).block < w.heap.size := by rw [block_of_add]; exact hok
        have hnS : ¬ ((ad.add (j * 4)).block = w.heap.size + 1 ∨ vv.ownBlock = some (ad.add (j * 4)).block) := fun h => by
          rcases h with h | h
          · omega
          · have := own_ge HO.out.own _ h; omega
        go_wp2_with fail
        go_region_held3 (fun w' => w'.cell? ⟨(ad.add (j * 4)).block, (ad.add (j * 4)).off + 1, none⟩ = some (.int .i64 hv) ∧ w'.cell? ⟨(ad.add (j * 4)).block, (ad.add (j * 4)).off + 2, none⟩ = some (.int .i64 cs)) (go_keep)
          ((go_at_call 22; refine (HT.out (w.heap.size + 1) (w.heap.size + 1) d hv cs vv zs _ HWy.out.le HHv.out (by exact ⟨HO.out.blk, HO.out.ge, HO.out.own⟩) (by have := Hj.out; have := Hn.out; omega)).mono ?_; rintro e w7 ⟨tt, v7, rfl, hbest, hO7, hk7, _⟩; have d1 := hk7.cell (a := ⟨(ad.add (j * 4)).block, (ad.add (j * 4)).off + 1, none⟩) (by exact hc1) hnS; have d2 := hk7.cell (a := ⟨(ad.add (j * 4)).block, (ad.add (j * 4)).off + 2, none⟩) (by exact hc2) hnS))
        have htq := hbest.le HL.out HWy.out.le
        have hle := HWy.out.le
        have hS := mny_add (q := q) (a := a) (d := d) (p := tt)
        have hSm := HSL.out (d + tt) (by omega)
        have HW7 := Held.mk (HWy.out.next htq)
        have HPo7 := Held.mk (part_pos (t := tt) (y := mny q a d tt) HPo.out)
        have HZl : Held ((if tt = 0 then zs else zs ++ [(tt, mny q a d tt)]).length ≤ j + 1) := ⟨by have := len_next (t := tt) (y := (tt, mny q a d tt)) (xs := zs); have := Hj.out; omega⟩
        have HB7 : Held (Below w.heap.size w w7) := ⟨(((Keep.of_below HB.out (fun _ => False)).drew).then hk7 (fun i hi h => by
          rcases h with h | h
          · omega
          · have := own_ge HO.out.own i h; omega)).to_below (fun _ _ h => h)⟩
        have HX7 : Held (Blk w7 w.heap.size 22 #[.int .i64 q, .int .i64 a, .int .i64 l, .int .i64 m]) := ⟨HX.out.drew.keep hk7 (fun h => by
          rcases h with h | h
          · omega
          · have := own_ge HO.out.own _ h; omega)⟩
        have HO7 := Held.mk hO7
        have HLe := Held.mk (HLf.out (w.heap.size + 1) (w.heap.size + 1) (d + tt) (shr q a (d + tt)) v7 _ w7 (by omega) hSm hO7)
        have hth : 0 < tt → decide (hv < (tt : Int)) = false ∧ decide (cs < (mny q a d tt : Int)) = false := fun h => by
          have := hbest.there HL.out hle h
          exact ⟨decide_eq_false (by omega), decide_eq_false (by omega)⟩
        have hwh := fun h : 0 < tt => hbest.whole h
        have hy0 : tt = 0 → mny q a d tt = 0 := fun h => by rw [h, mny_zero]
        have hfull : d + tt = q → shr q a d + mny q a d tt = a := fun h => by rw [hS, h, HSA.out]
        generalize mny q a d tt = y at *
        generalize shr q a d = p0 at *
        have e2 : ((shr q a (d + tt) : Nat) : Int) = (p0 : Int) + (y : Int) := by omega
        have hzq := HZQ.out
        have hzp := HZP.out
        have HLe1 : Held ((q : Int) - ((d + tt : Nat) : Int) = zq - (tt : Int)) := ⟨by omega⟩
        have HLe2 : Held ((a : Int) - ((shr q a (d + tt) : Nat) : Int) = zp - (y : Int)) := ⟨by omega⟩
        rw [HLe1.out, HLe2.out] at HLe
        have j1 : (tt : Int) ≤ zq := by omega
        have j2 : (y : Int) ≤ zp := by omega
        have j3 : zq ≤ 9223372036854775807 := by omega
        have j4 : zp ≤ 9223372036854775807 := by omega
        have hT : (0 = tt ∧ 0 = y ∧ ((zq = 0 ∧ zp = 0) ∨ ((zq == 0) = false))) ∨ (0 < tt ∧ decide (hv < (tt : Int)) = false ∧ decide (cs < (y : Int)) = false ∧ ((tt : Int) == 0) = false ∧ zq = (tt : Int) ∧ zp = (y : Int)) ∨
            (0 < tt ∧ decide (hv < (tt : Int)) = false ∧ decide (cs < (y : Int)) = false ∧ ((tt : Int) == 0) = false ∧ (tt : Int) % (l : Int) = 0 ∧ tt % l = 0 ∧ decide (tt < m) = false ∧ ((tt : Int) != zq) = true ∧ ((zq - (tt : Int)) == 0) = false) := by
          rcases Nat.eq_zero_or_pos tt with h0 | h0
          · have hy := hy0 h0
            refine .inl ⟨h0.symm, hy.symm, ?_⟩
            by_cases h : d + tt = q
            · have := hfull h
              exact .inl ⟨by omega, by omega⟩
            · exact .inr (beq_eq_false_iff_ne.2 (by omega))
          · obtain ⟨t1, t2⟩ := hth h0
            have t3 : ((tt : Int) == 0) = false := beq_eq_false_iff_ne.2 (by omega)
            by_cases h : d + tt = q
            · have := hfull h
              exact .inr (.inl ⟨h0, t1, t2, t3, by omega, by omega⟩)
            · rcases hwh h0 with h1 | ⟨h1, h2⟩
              · exact absurd h1 (by omega)
              · exact .inr (.inr ⟨h0, t1, t2, t3, by omega, h1, decide_eq_false (by omega), bne_iff_ne.2 (by omega), beq_eq_false_iff_ne.2 (by omega)⟩)
        clear hzq hzp
        have k0 := HX7.out.cell 0
        have k1 := HX7.out.cell 1
        have k2 := HX7.out.cell 2
        have k3 := HX7.out.cell 3
        simp at k0 k1 k2 k3
        clear hbest htq hle hS hSm hO7 hk7 hth hwh hy0 hfull e2 hc1 hc2
        rcases hT with ⟨s1, s2, ⟨rfl, rfl⟩ | r1⟩ | ⟨s1, s2, s3, s4, rfl, rfl⟩ | ⟨s1, s2, s3, s4, s5, s6, s7, s8, s9⟩
        all_goals
          first | (subst s1; subst s2) | skip
          all_goals
            go_wp2_with (go_at_call 25; refine HLe.out.mono ?_; rintro e w8 ⟨rfl, n8, rfl⟩)
            all_goals
              go_roundw
              case rel => exact ⟨j + 1, _, v7, _, by go_num, by first | rfl | (rw [HLe1.out]; done) | exact congrArg (Value.int .i64) (by have := HZQ.out; omega), by first | rfl | (rw [HLe2.out]; done) | exact congrArg (Value.int .i64) (by have := HLe2.out; omega), by omega, HZl, HW7, HPo7, ⟨⟨HO7.out.blk.drewN _, HO7.out.ge, HO7.out.own⟩⟩, ⟨HX7.out.drewN _⟩, ⟨below_drewN HB7.out _⟩⟩
              case measure => simp [intOf]; omega
      · go_wp2_with fail
        go_meet
        exact ⟨d, vv, zs, rfl, rfl, ⟨by have := Hj.out; omega⟩, HWy, HPo, HO, HX, HB⟩
  case rest =>
    obtain ⟨d, vv, zs, rfl, rfl, Hz, HWy, HPo, HO, HX, HB⟩ := hcut
    have HPa := Held.mk (Parts_in (w.heap.size + 1) (w.heap.size + 1) q a l m d (shr q a d) vv zs _ HO.out (by have := Hz.out; have := Hn.out; omega))
    have hp0 := HSL.out d HWy.out.le
    have hdq := HWy.out.le
    have HSQ := Held.mk HWy.out.sq
    have HSM := Held.mk HWy.out.sm
    generalize shr q a d = p0 at *
    have g1 : 0 ≤ (q : Int) - (d : Int) := by omega
    have g2 : 0 ≤ (a : Int) - (p0 : Int) := by omega
    clear HT HLf HSL HSA HN HW
    go_wp2_with fail
    refine HPa.out.mono ?_
    rintro e w8 ⟨v8, rfl, ho8, hb8⟩
    have HB8 : Held (Below w.heap.size w w8) := ⟨HB.out.trans (hb8.mono HB.out.size)⟩
    have HX8 := Held.mk (HX.out.keep (Keep.of_below hb8 (fun _ => False)) (fun h => h))
    obtain ⟨A8, c8, rfl, hc8⟩ := own_slice ho8
    have HO8 := Held.mk ho8
    have k0 := HX8.out.cell 0
    have k1 := HX8.out.cell 1
    simp at k0 k1
    have hzl : (zs.length : Int) ≤ 9223372036854775807 := by have := Hz.out; have := Hn.out; omega
    clear ho8 hb8
    go_wp2_with fail
    go_loop [7, 8, 15] (fun u v i => ∃ (k : Nat) (z1 z2 : Int), i = .int .i64 k ∧ u = .int .i64 z1 ∧ v = .int .i64 z2 ∧ Held (z1 = (q : Int) - d + (sumQ (zs.take k) : Nat)) ∧ Held (z2 = (a : Int) - p0 + (sumM (zs.take k) : Nat)) ∧ k ≤ zs.length) (fun _ _ i => zs.length - (intOf i).toNat)
    case atStart => exact ⟨0, _, _, rfl, rfl, rfl, ⟨by simp [sumQ]⟩, ⟨by simp [sumM]⟩, Nat.zero_le _⟩
    case round =>
      obtain ⟨k, z1, z2, rfl, rfl, rfl, HZ1, HZ2, hk⟩ := hrel
      by_cases hlt : k < zs.length
      · obtain ⟨g, cap, hv, _, _⟩ := HO8.out.form (show 0 < zs.length by omega)
        injection hv with hv1 _ _
        subst hv1
        obtain ⟨p1, p2⟩ := prs_at zs k hlt
        have c1 := HO8.out.cells (g := g) rfl _ _ p1
        have c2 := HO8.out.cells (g := g) rfl _ _ p2
        rw [add_at] at c1 c2
        have t1 := sumQ_take zs k hlt
        have t2 := sumM_take zs k hlt
        have s3 := sumQ_part zs (k + 1)
        have s4 := sumM_part zs (k + 1)
        rw [HSQ.out] at s3
        rw [HSM.out] at s4
        have hpos := HPo.out _ (List.getElem_mem hlt)
        have e1 := HZ1.out
        have e2 := HZ2.out
        generalize (zs[k]).1 = y1 at *
        generalize (zs[k]).2 = y2 at *
        have j1 : 0 ≤ z1 := by omega
        have j2 : 0 ≤ z2 := by omega
        have j3 : z1 + (y1 : Int) ≤ (q : Int) := by omega
        have j4 : z2 + (y2 : Int) ≤ (a : Int) := by omega
        have HK1 : Held (z1 + (y1 : Int) = (q : Int) - d + (sumQ (zs.take (k + 1)) : Nat)) := ⟨by rw [t1]; omega⟩
        have HK2 : Held (z2 + (y2 : Int) = (a : Int) - p0 + (sumM (zs.take (k + 1)) : Nat)) := ⟨by rw [t2]; omega⟩
        have hy1 : decide ((y1 : Int) < 1) = false := decide_eq_false (by omega)
        clear t1 t2 s3 s4 p1 p2 e1 e2 hpos
        go_wp2
        go_round
        case rel => exact ⟨k + 1, _, _, by go_num, rfl, rfl, HK1, HK2, by omega⟩
        case measure => simp [intOf]; omega
      · have hk2 : k = zs.length := by omega
        have f1 : (z1 == (q : Int)) = true := by
          have := HZ1.out
          rw [hk2, List.take_length, HSQ.out] at this
          rw [beq_iff_eq]; omega
        have f2 : (z2 == (a : Int)) = true := by
          have := HZ2.out
          rw [hk2, List.take_length, HSM.out] at this
          rw [beq_iff_eq]; omega
        clear hk2
        go_wp2
        go_ret
        exact ⟨rfl, HB8.out⟩
theorem whole_any (x0 x1 x2 x3 : Int) (A : Option Addr) (c : Nat) (ps : List Call) (w : World) (hg : Laid w) (b0 : x0 ≤ 9223372036854775807) (b1 : x1 ≤ 9223372036854775807) (b2 : x2 ≤ 9223372036854775807) (b3 : x3 ≤ 9223372036854775807)
    (hr : RdCall w (fun k => k < w.heap.size) A ps) (hgd : ∀ p ∈ ps, p.Good) (hn : ps.length ≤ 4398046511104) :
    Calls Tryd.prog 7 #[.agg #[.int .i64 x0, .int .i64 x1, .int .i64 x2, .int .i64 x3], .slice A ps.length c] w fun e w' => e = .returned (.bool true) ∧ Below w.heap.size w w' := by
  by_cases hm : x0 < 1 ∨ x1 < 0 ∨ x2 < 1 ∨ x3 < 0
  · exact whole_no x0 x1 x2 x3 A ps.length c w hg hm
  · obtain ⟨q, rfl⟩ := nat_of (show 0 ≤ x0 by omega)
    obtain ⟨a, rfl⟩ := nat_of (show 0 ≤ x1 by omega)
    obtain ⟨l, rfl⟩ := nat_of (show 0 ≤ x2 by omega)
    obtain ⟨m, rfl⟩ := nat_of (show 0 ≤ x3 by omega)
    exact whole_in q a l m A c ps w (by omega) (by omega) (by omega) (by omega) (by omega) (by omega) hr hgd hn
end Prt
end Go.Proofs.YtpbkmkclagikhaaDoor
