/- PartialOrders: two orders, any calls in turns: walked. -/
import Derived.Test.YtpbkmkclagikhaaDoorTwo
import Derived.Deep.RegionHeld3
import Derived.Deep.DeepCutAuto
import Derived.Deep.CutBlock
namespace Go.Proofs.YtpbkmkclagikhaaDoor
set_option linter.unusedVariables false
set_option linter.unusedSimpArgs false
namespace Prt
open Go.RowKit Mem Dvs Err
theorem Duo.rkeep {w w1 : World} {base B B2 q a l m d : Nat} {v vr : Value} {xs : List (Nat × Nat)} (h : Duo w base B B2 q a l m d v vr xs) (hk1 : Keep (fun k => k = B ∨ v.ownBlock = some k) w w1) : ROrd w1 base B2 q a l m d (shr q a d) vr xs := h.r.keep hk1 (fun e => by
    rcases e with e | e
    · exact Blk.ne_ h.r.blk h.o.blk (by decide) e
    · exact own_blk_ne h.o.own h.r.blk (by decide) e) (fun k hk e => by
    rcases e with e | e
    · exact own_blk_ne h.r.own h.o.blk (by decide) (by rw [hk, e])
    · exact h.dis k e hk)
theorem NewR.ptr {t : TypeId} {bad good : Value} {x0 x1 x2 x3 : Int} {w w' : World} {ob ev : Value} (h : NewR t bad good x0 x1 x2 x3 w w' ob ev) : ∃ a, ob = .pointer a := by
  rcases h with ⟨_, h, _⟩ | ⟨_, _, _, _, _, _, _, _, _, _, _, B, h, _⟩
  · exact ⟨_, h⟩
  · exact ⟨_, h⟩
set_option maxHeartbeats 4000000 in
set_option maxRecDepth 100000 in
theorem orders_any (x0 x1 x2 x3 y0 y1 y2 y3 : Int) (A : Option Addr) (c : Nat) (ps : List Call) (w : World) (hg : Laid w) (b0 : x0 ≤ 9223372036854775807) (b1 : x1 ≤ 9223372036854775807) (b2 : x2 ≤ 9223372036854775807) (b3 : x3 ≤ 9223372036854775807)
    (d0 : y0 ≤ 9223372036854775807) (d1 : y1 ≤ 9223372036854775807) (d2 : y2 ≤ 9223372036854775807) (d3 : y3 ≤ 9223372036854775807)
    (hr : RdCall w (fun k => k < w.heap.size) A ps) (hgd : ∀ p ∈ ps, p.Good) (hn : ps.length ≤ 4398046511104) :
    Calls Tryd.prog 6 #[.agg #[.int .i64 x0, .int .i64 x1, .int .i64 x2, .int .i64 x3], .agg #[.int .i64 y0, .int .i64 y1, .int .i64 y2, .int .i64 y3], .slice A ps.length c] w fun e w' => e = .returned (.bool true) ∧ Below w.heap.size w w' := by
  have HW := Held.mk works_any
  have HNa := Held.mk (new_any x0 x1 x2 x3 b0 b1 b2 b3)
  have HNb := Held.mk (new_any y0 y1 y2 y3 d0 d1 d2 d3)
  have HRa := Held.mk (rnew_any x0 x1 x2 x3 b0 b1 b2 b3)
  have HRb := Held.mk (rnew_any y0 y1 y2 y3 d0 d1 d2 d3)
  have HPn := Held.mk plain_ok
  have HPr := Held.mk plain_refused
  have HT := Held.mk (fun base B q a l m d have_ cash v xs w (hf : Four q a l m) ho hd hh hx => Take_in base B q a l m d have_ cash v xs w ho hf.q0 hf.qm hf.am hf.l0 hd hh hx)
  have HRT := Held.mk (fun base B q a l m d have_ cash v xs w (hf : Four q a l m) ho hd hh hx => rTake_in base B q a l m d have_ cash v xs w ho hf.q0 hf.qm hf.am hf.l0 hd hh hx)
  have HAs := Held.mk (fun base B B2 q a l m d v vr xs w (hf : Four q a l m) (h : Duo w base B B2 q a l m d v vr xs) hx => asked_in base base B B2 q a l m d v vr xs w h.o h.r hf.q0 h.le hf.qm hf.am hx)
  have Hr := Held.mk hr
  have Hgd := Held.mk hgd
  have Hn := Held.mk hn
  have hnI : (ps.length : Int) ≤ 9223372036854775807 := by omega
  have HB0 : Held (Below w.heap.size w ((w.alloc (.cells #[.int .i64 x0, .int .i64 x1, .int .i64 x2, .int .i64 x3] 22)).alloc (.cells #[.int .i64 y0, .int .i64 y1, .int .i64 y2, .int .i64 y3] 22))) := ⟨((Below.refl _ _).alloc (Nat.le_refl _) _).alloc (by simp) _⟩
  have HXa0 := Held.mk ((Blk.new w 22 #[.int .i64 x0, .int .i64 x1, .int .i64 x2, .int .i64 x3]).alloc (.cells #[.int .i64 y0, .int .i64 y1, .int .i64 y2, .int .i64 y3] 22))
  have HXb0 := Held.mk (Blk.new (w.alloc (.cells #[.int .i64 x0, .int .i64 x1, .int .i64 x2, .int .i64 x3] 22)) 22 #[.int .i64 y0, .int .i64 y1, .int .i64 y2, .int .i64 y3])
  rw [World.size_alloc] at HXb0
  have HG := Held.mk (hg.below HB0.out)
  clear hr hgd hn hg b0 b1 b2 b3 d0 d1 d2 d3
  go_enter Tryd.func6, Tryd.ntmps6
  go_wp2_with fail
  generalize (w.alloc (.cells #[.int .i64 x0, .int .i64 x1, .int .i64 x2, .int .i64 x3] 22)).alloc (.cells #[.int .i64 y0, .int .i64 y1, .int .i64 y2, .int .i64 y3] 22) = w0 at *
  refine (HNa.out _).mono ?_
  rintro e w1 ⟨o, eo, rfl, hk1, hr1⟩
  have HK1 := Held.mk hk1
  have HR1 := Held.mk hr1
  have HXb1 := Held.mk (HXb0.out.keep hk1 (fun h => h))
  clear hk1 hr1
  have k0 := HXb1.out.cell 0
  have k1 := HXb1.out.cell 1
  have k2 := HXb1.out.cell 2
  have k3 := HXb1.out.cell 3
  simp at k0 k1 k2 k3
  go_wp2_with fail
  refine (HNb.out _).mono ?_
  rintro e w2 ⟨p, ep, rfl, hk2, hr2⟩
  have HK2 := Held.mk hk2
  have HR2 := Held.mk hr2
  have HXa2 := Held.mk (HXa0.out.keep (HK1.out.trans hk2) (fun h => h))
  have HXb2 := Held.mk (HXb1.out.keep hk2 (fun h => h))
  clear hk2 hr2 k0 k1 k2 k3
  have k0 := HXa2.out.cell 0
  have k1 := HXa2.out.cell 1
  have k2 := HXa2.out.cell 2
  have k3 := HXa2.out.cell 3
  simp at k0 k1 k2 k3
  go_wp2_with fail
  refine (HRa.out _).mono ?_
  rintro e w3 ⟨r, er, rfl, hk3, hr3⟩
  have HK3 := Held.mk hk3
  have HR3 := Held.mk hr3
  have HXb3 := Held.mk (HXb2.out.keep hk3 (fun h => h))
  clear hk3 hr3 k0 k1 k2 k3
  have k0 := HXb3.out.cell 0
  have k1 := HXb3.out.cell 1
  have k2 := HXb3.out.cell 2
  have k3 := HXb3.out.cell 3
  simp at k0 k1 k2 k3
  go_wp2_with fail
  refine (HRb.out _).mono ?_
  rintro e w4 ⟨s, es, rfl, hk4, hr4⟩
  have HK4 := Held.mk hk4
  have HR4 := Held.mk hr4
  clear hk4 hr4 k0 k1 k2 k3
  dsimp only
  go_upto_region 5 with fail
  go_cut [99] (fun t wx => t = .bool false ∧ Keep (fun _ => False) w4 wx)
  case first =>
    have HG4 : Held (Laid w4) := ⟨by
      have hk := ((HK1.out.trans HK2.out).trans HK3.out).trans HK4.out
      exact HG.out.below (hk.to_below (fun _ _ h => h))⟩
    have HPa : Held (∀ w', Below w4.heap.size w4 w' → Calls Tryd.prog 11 #[eo, er] w' fun e w'' => e = .returned (.bool true) ∧ Below w'.heap.size w' w'') := ⟨fun w' hb => by
      rcases HR1.out with ⟨m1, _, e1⟩ | ⟨m1, e1, _⟩
      · rcases HR3.out with ⟨m3, _, e3⟩ | ⟨m3, e3, _⟩
        · rw [e1, e3]; exact HPr.out _ (HG4.out.below hb)
        · exact absurd m1 m3
      · rcases HR3.out with ⟨m3, _, e3⟩ | ⟨m3, e3, _⟩
        · exact absurd m3 m1
        · rw [e1, e3]; exact HPn.out _⟩
    have HPb : Held (∀ w', Below w4.heap.size w4 w' → Calls Tryd.prog 11 #[ep, es] w' fun e w'' => e = .returned (.bool true) ∧ Below w'.heap.size w' w'') := ⟨fun w' hb => by
      rcases HR2.out with ⟨m1, _, e1⟩ | ⟨m1, e1, _⟩
      · rcases HR4.out with ⟨m3, _, e3⟩ | ⟨m3, e3, _⟩
        · rw [e1, e3]; exact HPr.out _ (HG4.out.below hb)
        · exact absurd m1 m3
      · rcases HR4.out with ⟨m3, _, e3⟩ | ⟨m3, e3, _⟩
        · exact absurd m3 m1
        · rw [e1, e3]; exact HPn.out _⟩
    have hca : (o = .pointer none ∧ er = .int .i64 1) ∨ (∃ B, o = .pointer (some ⟨B, 0, none⟩) ∧ er = .int .i64 0) := by
      rcases HR1.out with ⟨m1, e1, _⟩ | ⟨m1, _, _, _, _, _, _, _, _, _, _, B, e1, _⟩
      · rcases HR3.out with ⟨m3, _, e3⟩ | ⟨m3, e3, _⟩
        · exact .inl ⟨e1, e3⟩
        · exact absurd m1 m3
      · rcases HR3.out with ⟨m3, _, e3⟩ | ⟨m3, e3, _⟩
        · exact absurd m3 m1
        · exact .inr ⟨B, e1, e3⟩
    have hcb : (p = .pointer none ∧ es = .int .i64 1) ∨ (∃ B, p = .pointer (some ⟨B, 0, none⟩) ∧ es = .int .i64 0) := by
      rcases HR2.out with ⟨m1, e1, _⟩ | ⟨m1, _, _, _, _, _, _, _, _, _, _, B, e1, _⟩
      · rcases HR4.out with ⟨m3, _, e3⟩ | ⟨m3, e3, _⟩
        · exact .inl ⟨e1, e3⟩
        · exact absurd m1 m3
      · rcases HR4.out with ⟨m3, _, e3⟩ | ⟨m3, e3, _⟩
        · exact absurd m3 m1
        · exact .inr ⟨B, e1, e3⟩
    clear HR1 HR2 HR3 HR4 HT HRT HAs HNa HNb HRa HRb HPn HPr
    go_wp2_with fail
    refine (HPa.out _ (Below.refl _ _)).mono ?_
    rintro e w5 ⟨rfl, hb5⟩
    have HB5 := Held.mk hb5
    clear hb5
    go_wp2_with fail
    refine (HPb.out _ HB5.out).mono ?_
    rintro e w6 ⟨rfl, hb6⟩
    have HB6 : Held (Below w4.heap.size w4 w6) := ⟨HB5.out.trans (hb6.mono HB5.out.size)⟩
    clear hb6 HPa HPb
    rcases hca with ⟨rfl, rfl⟩ | ⟨Ba, rfl, rfl⟩
    all_goals rcases hcb with ⟨rfl, rfl⟩ | ⟨Bb, rfl, rfl⟩
    all_goals
      go_wp2_with fail
      refine (HW.out _).mono ?_
      rintro e w7 ⟨rfl, n7, rfl⟩
      go_wp2_with fail
      go_meet
      exact ⟨rfl, Keep.of_below (below_drewN HB6.out n7) _⟩
  case rest =>
    obtain ⟨rfl, hkc⟩ := hcut
    have HKc := Held.mk hkc
    clear hkc
    obtain ⟨ao, rfl⟩ := HR1.out.ptr
    obtain ⟨ap, rfl⟩ := HR2.out.ptr
    obtain ⟨ar, rfl⟩ := HR3.out.ptr
    obtain ⟨as_, rfl⟩ := HR4.out.ptr
    have s1 := HK1.out.size
    have s2 := HK2.out.size
    have s3 := HK3.out.size
    have s4 := HK4.out.size
    have s5 := HKc.out.size
    have s0 := HB0.out.size
    have HInvc : Held (Inv w.heap.size wc.heap.size (wc.heap.size + 1) wc (.pointer ao) (.pointer ap) (.pointer ar) (.pointer as_) 0) := ⟨⟨_, _, St.fresh HR1.out (((HK2.out.trans HK3.out).trans HK4.out).trans HKc.out) HR3.out (HK4.out.trans HKc.out) s0 (by omega), St.fresh HR2.out ((HK3.out.trans HK4.out).trans HKc.out) HR4.out HKc.out (by omega) (by omega), fun k h1 h2 => by omega, fun k h => by omega⟩⟩
    have HBc : Held (Below w.heap.size w wc) := ⟨((Keep.of_below HB0.out (fun _ => False)).trans ((((HK1.out.trans HK2.out).trans HK3.out).trans HK4.out).trans HKc.out)).to_below (fun _ _ h => h)⟩
    have HI0 : Held (Inv w.heap.size wc.heap.size (wc.heap.size + 1) ((wc.alloc (.cells #[.pointer ao, .pointer ap] 50)).alloc (.cells #[.pointer ar, .pointer as_] 51)) (.pointer ao) (.pointer ap) (.pointer ar) (.pointer as_) 0) := ⟨HInvc.out.keep (((Keep.refl _ _).alloc _).alloc _)⟩
    have HO0 : Held (Blk ((wc.alloc (.cells #[.pointer ao, .pointer ap] 50)).alloc (.cells #[.pointer ar, .pointer as_] 51)) wc.heap.size 50 #[.pointer ao, .pointer ap]) := ⟨(Blk.new _ _ _).alloc _⟩
    have HP0 : Held (Blk ((wc.alloc (.cells #[.pointer ao, .pointer ap] 50)).alloc (.cells #[.pointer ar, .pointer as_] 51)) (wc.heap.size + 1) 51 #[.pointer ar, .pointer as_]) := ⟨by
      have := Blk.new (wc.alloc (.cells #[.pointer ao, .pointer ap] 50)) 51 #[.pointer ar, .pointer as_]
      rw [World.size_alloc] at this
      exact this⟩
    have HBe : Held (Below w.heap.size w ((wc.alloc (.cells #[.pointer ao, .pointer ap] 50)).alloc (.cells #[.pointer ar, .pointer as_] 51))) := ⟨(HBc.out.alloc (HBc.out.size) _).alloc (by have := HBc.out.size; simp; omega) _⟩
    have HWc : Held (w.heap.size ≤ wc.heap.size) := ⟨HBc.out.size⟩
    clear HR1 HR2 HR3 HR4 HK1 HK2 HK3 HK4 HKc s0 s1 s2 s3 s4 s5 HNa HNb HRa HRb HPn HPr HW HXa0 HXb0 HXb1 HXa2 HXb2 HXb3 HInvc HBc HB0 HG
    go_wp2_with fail
    generalize (wc.alloc (.cells #[.pointer ao, .pointer ap] 50)).alloc (.cells #[.pointer ar, .pointer as_] 51) = wd at *
    go_loopw [17] (fun i wr => ∃ (j : Nat), i = .int .i64 j ∧ j ≤ ps.length ∧ Held (Inv w.heap.size wc.heap.size (wc.heap.size + 1) wr (.pointer ao) (.pointer ap) (.pointer ar) (.pointer as_) j) ∧ Held (Blk wr wc.heap.size 50 #[.pointer ao, .pointer ap]) ∧ Held (Blk wr (wc.heap.size + 1) 51 #[.pointer ar, .pointer as_]) ∧ Held (Below w.heap.size w wr)) (fun i _ => ps.length - (intOf i).toNat)
    case atStart => exact ⟨0, rfl, Nat.zero_le _, HI0, HO0, HP0, HBe⟩
    case round =>
      clear HI0 HO0 HP0 HBe
      obtain ⟨j, rfl, hj, HI, HO, HP, HB⟩ := hrel
      by_cases c1 : j < ps.length
      · obtain ⟨ad, rfl, hok, hc0, hc1, hc2, hc3⟩ := RdCall.at_ (RdV.keep Hr.out (Keep.of_below HB.out (fun k => ¬ k < w.heap.size)) (fun k hk => by simpa using hk)) c1
        have hgj := Hgd.out _ (List.getElem_mem c1)
        have hon := hgj.on
        have HHv := Held.mk hgj.hv
        have HPk := Held.mk (fun w => pick_any ps[j].on 2 w hon (by omega) (by omega))
        obtain ⟨x, hx, ex⟩ : ∃ x : Nat, x < 2 ∧ ps[j].on % 2 = (x : Int) := ⟨(ps[j].on % 2).toNat, by omega, by omega⟩
        rw [ex] at HPk
        generalize ps[j].on = on at *
        generalize ps[j].hv = hv at *
        generalize ps[j].cs = cs at *
        generalize ps[j].ask = ask at *
        obtain ⟨ox, rx, T, e1, e2, hSt, hGT, hback⟩ := HI.out.pick hx
        have HE1 : Held (wr.cell? ⟨wc.heap.size, x, none⟩ = some ox) := ⟨(HO.out.cell x).trans e1⟩
        have HE2 : Held (wr.cell? ⟨wc.heap.size + 1, x, none⟩ = some rx) := ⟨(HP.out.cell x).trans e2⟩
        have HGT := Held.mk hGT
        have HBack := Held.mk hback
        have hxI : (x : Int) ≤ 1 := by omega
        have hxJ : (x : Int) < 2 := by omega
        have hx0 : (0 : Int) ≤ (x : Int) := by omega
        have hxN : x < 2 := hx
        have Hx := Held.mk hx
        have Hok := Held.mk hok
        clear hgj hon ex e1 e2 hGT hback hx hok
        rcases hSt with ⟨rfl, rfl⟩ | ⟨B, B2, q, a, l, m, d, v, vr, xs, rfl, rfl, hf, hxs, hD, hT⟩
        · have q1 : (wr.alloc (.cells #[.int .i64 on, .int .i64 hv, .int .i64 cs, .bool ask] 53)).cell? ⟨wc.heap.size, x, none⟩ = some (.pointer none) := ((Keep.refl (fun _ => False) wr).alloc _).cell HE1.out (fun h => h)
          have HKa : Held (Keep (fun _ => False) wr (wr.alloc (.cells #[.int .i64 on, .int .i64 hv, .int .i64 cs, .bool ask] 53))) := ⟨(Keep.refl _ _).alloc _⟩
          go_wp2_with fail
          refine (HPk.out _).mono ?_
          rintro e w2 ⟨rfl, rfl⟩
          go_wp2_with fail
          go_roundw
          case rel => exact ⟨j + 1, by go_num, by omega, ⟨(HI.out.keep HKa.out).mono (by omega)⟩, ⟨HO.out.keep HKa.out (fun h => h)⟩, ⟨HP.out.keep HKa.out (fun h => h)⟩, ⟨HB.out.trans ((HKa.out.to_below (fun _ _ h => h)).mono HB.out.size)⟩⟩
          case measure => simp [intOf]; omega
        · have HC1 := Held.mk (Blk.new wr 53 #[.int .i64 on, .int .i64 hv, .int .i64 cs, .bool ask])
          have HKa : Held (Keep (fun _ => False) wr (wr.alloc (.cells #[.int .i64 on, .int .i64 hv, .int .i64 cs, .bool ask] 53))) := ⟨(Keep.refl _ _).alloc _⟩
          have HT1 := Held.mk hT
          have HF := Held.mk hf
          have HXs := Held.mk hxs
          have HXl : Held (xs.length ≤ 12000000000000) := ⟨by have := Hn.out; omega⟩
          have HD1 := Held.mk (hD.keep HKa.out (fun _ _ h => h))
          clear hT hf hxs hD
          go_wp2_with fail
          refine (HPk.out _).mono ?_
          rintro e w1 ⟨rfl, rfl⟩
          obtain ⟨bc, hbc⟩ : ∃ bc, bc = wr.heap.size := ⟨_, rfl⟩
          rw [← hbc] at HC1 ⊢
          generalize wr.alloc (.cells #[.int .i64 on, .int .i64 hv, .int .i64 cs, .bool ask] 53) = w1 at *
          have HBc := Held.mk hbc
          have q1 := HKa.out.cell HE1.out (fun h => h)
          have q2 := HKa.out.cell HE2.out (fun h => h)
          have l1 := HC1.out.cell 1
          have l2 := HC1.out.cell 2
          have l3 := HC1.out.cell 3
          simp at l1 l2 l3
          have Hn1 : Held (∀ k, Tch B B2 v vr k → k ≠ wc.heap.size ∧ k ≠ wc.heap.size + 1 ∧ k ≠ bc) := ⟨fun k hk => by have := HGT.out k (HT1.out k hk); have := HBc.out; omega⟩
          have Hm1 : Held (¬ (wc.heap.size = B ∨ v.ownBlock = some wc.heap.size)) := ⟨fun h => (Hn1.out wc.heap.size (by rcases h with h | h; exact .inl h; exact .inr (.inr (.inl h)))).1 rfl⟩
          have Hm2 : Held (¬ (wc.heap.size + 1 = B ∨ v.ownBlock = some (wc.heap.size + 1))) := ⟨fun h => (Hn1.out (wc.heap.size + 1) (by rcases h with h | h; exact .inl h; exact .inr (.inr (.inl h)))).2.1 rfl⟩
          have Hm3 : Held (¬ (bc = B ∨ v.ownBlock = some bc)) := ⟨fun h => (Hn1.out bc (by rcases h with h | h; exact .inl h; exact .inr (.inr (.inl h)))).2.2 rfl⟩
          have Hm4 : Held (¬ (wc.heap.size = B2 ∨ vr.ownBlock = some wc.heap.size)) := ⟨fun h => (Hn1.out wc.heap.size (by rcases h with h | h; exact .inr (.inl h); exact .inr (.inr (.inr h)))).1 rfl⟩
          have Hm5 : Held (¬ (wc.heap.size + 1 = B2 ∨ vr.ownBlock = some (wc.heap.size + 1))) := ⟨fun h => (Hn1.out (wc.heap.size + 1) (by rcases h with h | h; exact .inr (.inl h); exact .inr (.inr (.inr h)))).2.1 rfl⟩
          have Hm6 : Held (¬ (bc = B2 ∨ vr.ownBlock = some bc)) := ⟨fun h => (Hn1.out bc (by rcases h with h | h; exact .inr (.inl h); exact .inr (.inr (.inr h)))).2.2 rfl⟩
          clear hbc
          go_wp2_with fail
          go_region_held3 (fun w' => w'.cell? ⟨wc.heap.size, x, none⟩ = some (.pointer (some ⟨B, 0, none⟩)) ∧ w'.cell? ⟨bc, 1, none⟩ = some (.int .i64 hv) ∧ w'.cell? ⟨bc, 2, none⟩ = some (.int .i64 cs)) (go_keep)
            ((go_at_call 22; refine (HT.out w.heap.size B q a l m d hv cs v xs _ HF.out (by exact ⟨HD1.out.o.blk, HD1.out.o.ge, HD1.out.o.own⟩) HD1.out.le HHv.out (Nat.le_trans HXl.out (by decide))).mono ?_; rintro e w2 ⟨tt, v2, rfl, hbest, ho2, hk2, hat2⟩; have q1 := hk2.cell (a := ⟨wc.heap.size, x, none⟩) (by exact q1) Hm1.out; have q2 := hk2.cell (a := ⟨wc.heap.size + 1, x, none⟩) (by exact q2) Hm2.out; have l1 := hk2.cell (a := ⟨bc, 1, none⟩) (by exact l1) Hm3.out; have l2 := hk2.cell (a := ⟨bc, 2, none⟩) (by exact l2) Hm3.out; have l3 := hk2.cell (a := ⟨bc, 3, none⟩) (by exact l3) Hm3.out))
          have HK2 : Held (Keep (fun k => k = B ∨ v.ownBlock = some k) w1 w2) := ⟨⟨hk2.os, hk2.tape, hk2.output, hk2.size, hk2.block⟩⟩
          have HR2 := Held.mk (HD1.out.rkeep HK2.out)
          have HO2 := Held.mk ho2
          have HBst := Held.mk hbest
          have HA2 : Held (v2.ownBlock = v.ownBlock ∨ ∃ b, v2.ownBlock = some b ∧ w1.heap.size ≤ b) := ⟨hat2⟩
          clear hk2 ho2 hbest hat2
          go_wp2_with fail
          go_region_held3 (fun w' => w'.cell? ⟨wc.heap.size + 1, x, none⟩ = some (.pointer (some ⟨B2, 0, none⟩)) ∧ w'.cell? ⟨bc, 1, none⟩ = some (.int .i64 hv) ∧ w'.cell? ⟨bc, 2, none⟩ = some (.int .i64 cs)) (go_keep)
            ((go_at_call 23; refine (HRT.out w.heap.size B2 q a l m d hv cs vr xs _ HF.out (by exact ⟨HR2.out.blk, HR2.out.ge, HR2.out.own⟩) HD1.out.le HHv.out (Nat.le_trans HXl.out (by decide))).mono ?_; rintro e w3 ⟨t2, vr2, rfl, hbest2, hr3, hk3, hat3⟩; have q1 := hk3.cell (a := ⟨wc.heap.size, x, none⟩) (by exact q1) Hm4.out; have q2 := hk3.cell (a := ⟨wc.heap.size + 1, x, none⟩) (by exact q2) Hm5.out; have l1 := hk3.cell (a := ⟨bc, 1, none⟩) (by exact l1) Hm6.out; have l2 := hk3.cell (a := ⟨bc, 2, none⟩) (by exact l2) Hm6.out; have l3 := hk3.cell (a := ⟨bc, 3, none⟩) (by exact l3) Hm6.out))
          obtain rfl := HBst.out.one hbest2
          have HK3 : Held (Keep (fun k => k = B2 ∨ vr.ownBlock = some k) w2 w3) := ⟨⟨hk3.os, hk3.tape, hk3.output, hk3.size, hk3.block⟩⟩
          have HLe := Held.mk (HBst.out.le HF.out.l0 HD1.out.le)
          have HStep := Held.mk (HD1.out.step HO2.out HK2.out HA2.out hr3 HK3.out (by exact hat3) (by have := HLe.out; have := HD1.out.le; omega))
          have HXn : Held ((if tt = 0 then xs else xs ++ [(tt, mny q a d tt)]).length ≤ j + 1) := ⟨by have := len_next (t := tt) (y := (tt, mny q a d tt)) (xs := xs); have := HXs.out; omega⟩
          generalize (if tt = 0 then xs else xs ++ [(tt, mny q a d tt)]) = xs2 at *
          have HKw : Held (Keep T wr w3) := ⟨(HKa.out.mono (T := T) (fun _ _ h => h.elim)).then (HStep.out.2.1) (fun k hk h => HT1.out k h)⟩
          have HSz : Held (wr.heap.size ≤ w1.heap.size) := ⟨HKa.out.size⟩
          have HInv3 : Held (Inv w.heap.size wc.heap.size (wc.heap.size + 1) w3 (.pointer ao) (.pointer ap) (.pointer ar) (.pointer as_) (j + 1)) := ⟨HBack.out w3 (Tch B B2 v2 vr2) (.inr ⟨B, B2, q, a, l, m, d + tt, v2, vr2, xs2, rfl, rfl, HF.out, HXn.out, HStep.out.1, fun k h => h⟩) HStep.out.1.touch HKw.out (fun k h => by
            rcases HStep.out.2.2 k h with h1 | h1
            · exact .inl (HT1.out k h1)
            · exact .inr (Nat.le_trans HSz.out h1)) HO.out.lt HP.out.lt⟩
          have HO3 := Held.mk (HO.out.keep HKw.out (fun h => (HGT.out _ h).2.2.1 rfl))
          have HP3 := Held.mk (HP.out.keep HKw.out (fun h => (HGT.out _ h).2.2.2 rfl))
          have HB3 : Held (Below w.heap.size w w3) := ⟨((Keep.of_below HB.out (fun _ => False)).then HKw.out (fun k hk h => by have := (HGT.out k h).1; omega)).to_below (fun _ _ h => h)⟩
          have HD3 := Held.mk HStep.out.1
          have HXm : Held (xs2.length ≤ 12000000000000) := ⟨by have := HXn.out; have := Hn.out; omega⟩
          clear hk3 hr3 hat3 hbest2 HStep HK2 HK3 HR2 HO2 HA2 HBst HD1 HC1 HBack HKw HKa HI HO HP HB HE1 HE2 HGT HT1 Hn1 Hm1 Hm2 Hm3 Hm4 Hm5 Hm6 HT HRT HPk HLe l1 l2
          generalize mny q a d tt = mt at *
          cases ask
          · go_wp2_with fail
            go_quiet (fail)
            go_wp2_with fail
            go_roundw
            case rel => exact ⟨j + 1, by go_num, by omega, ⟨HInv3.out.keep ((Keep.refl _ _).drewN _)⟩, ⟨HO3.out.drewN _⟩, ⟨HP3.out.drewN _⟩, ⟨below_drewN HB3.out _⟩⟩
            case measure => simp [intOf]; omega
          · go_wp2_with fail
            go_region_held3 (fun w' => w'.cell? ⟨wc.heap.size, x, none⟩ = some (.pointer (some ⟨B, 0, none⟩)) ∧ w'.cell? ⟨wc.heap.size + 1, x, none⟩ = some (.pointer (some ⟨B2, 0, none⟩)) ∧ w'.cell? ⟨bc, 3, none⟩ = some (.bool true)) (go_keep)
              ((go_at_call 24; refine (HAs.out w.heap.size B B2 q a l m (d + tt) v2 vr2 xs2 _ HF.out (by exact HD3.out.keep ((Keep.refl (fun _ => False) w3).drew) (fun _ _ h => h)) HXm.out).mono ?_; rintro e w5 ⟨rfl, hb5⟩; have q1 := (Keep.of_below hb5 (fun _ => False)).cell (a := ⟨wc.heap.size, x, none⟩) (by exact q1) (fun h => h); have q2 := (Keep.of_below hb5 (fun _ => False)).cell (a := ⟨wc.heap.size + 1, x, none⟩) (by exact q2) (fun h => h); have l3 := (Keep.of_below hb5 (fun _ => False)).cell (a := ⟨bc, 3, none⟩) (by exact l3) (fun h => h)))
            have HK5 : Held (Keep (fun _ => False) w3 w5) := ⟨((Keep.refl (fun _ => False) w3).drew).trans (Keep.of_below hb5 _)⟩
            clear hb5
            go_wp2_with fail
            go_roundw
            case rel => exact ⟨j + 1, by go_num, by omega, ⟨HInv3.out.keep HK5.out⟩, ⟨HO3.out.keep HK5.out (fun h => h)⟩, ⟨HP3.out.keep HK5.out (fun h => h)⟩, ⟨HB3.out.trans ((HK5.out.to_below (fun _ _ h => h)).mono HB3.out.size)⟩⟩
            case measure => simp [intOf]; omega
      · obtain ⟨T0, T1, hs0, hs1, _, _⟩ := HI.out
        have HA : Held (∀ (ob rb : Option Addr) n T, St wr w.heap.size (.pointer ob) (.pointer rb) n T → n ≤ ps.length → ob ≠ none → ∀ w', Keep (fun _ => False) wr w' → Calls Tryd.prog 24 #[.pointer ob, .pointer rb] w' fun e w'' => e = .returned (.bool true) ∧ Below w'.heap.size w' w'') := ⟨fun ob rb n T h hn' hne w' hk => by
          rcases h with ⟨h, _⟩ | ⟨B, B2, q, a, l, m, d, v, vr, xs, h1, h2, hf, hxs, hD, _⟩
          · injection h with h
            exact absurd h hne
          · rw [h1, h2]
            exact HAs.out _ _ _ _ _ _ _ _ _ _ _ _ hf (hD.keep hk (fun _ _ h => h)) (by have := Hn.out; omega)⟩
        have H0 : Held (ao ≠ none → ∀ w', Keep (fun _ => False) wr w' → Calls Tryd.prog 24 #[.pointer ao, .pointer ar] w' fun e w'' => e = .returned (.bool true) ∧ Below w'.heap.size w' w'') := ⟨fun h => HA.out _ _ _ _ hs0 hj h⟩
        have H1 : Held (ap ≠ none → ∀ w', Keep (fun _ => False) wr w' → Calls Tryd.prog 24 #[.pointer ap, .pointer as_] w' fun e w'' => e = .returned (.bool true) ∧ Below w'.heap.size w' w'') := ⟨fun h => HA.out _ _ _ _ hs1 hj h⟩
        clear hs0 hs1 HA HAs HI HO HP HT HRT Hr Hgd
        cases ao with
        | none =>
          cases ap with
          | none =>
            go_wp2
            go_ret
            exact ⟨rfl, HB.out⟩
          | some aq =>
            go_wp2_with fail
            refine (H1.out (by simp) _ (Keep.refl _ _)).mono ?_
            rintro e w5 ⟨rfl, hb5⟩
            have HB5 : Held (Below w.heap.size w w5) := ⟨HB.out.trans (hb5.mono HB.out.size)⟩
            clear hb5
            go_wp2
            go_ret
            exact ⟨rfl, HB5.out⟩
        | some ap0 =>
          go_wp2_with fail
          refine (H0.out (by simp) _ (Keep.refl _ _)).mono ?_
          rintro e w5 ⟨rfl, hb5⟩
          have HK5 : Held (Keep (fun _ => False) wr w5) := ⟨Keep.of_below hb5 _⟩
          clear hb5
          go_wp2_with fail
          refine (H0.out (by simp) _ HK5.out).mono ?_
          rintro e w6 ⟨rfl, hb6⟩
          have HK6 : Held (Keep (fun _ => False) wr w6) := ⟨HK5.out.below hb6⟩
          have HB6 : Held (Below w.heap.size w w6) := ⟨HB.out.trans ((HK6.out.to_below (fun _ _ h => h)).mono HB.out.size)⟩
          clear hb6
          cases ap with
          | none =>
            go_wp2
            go_ret
            exact ⟨rfl, HB6.out⟩
          | some aq =>
            go_wp2_with fail
            refine (H1.out (by simp) _ HK6.out).mono ?_
            rintro e w7 ⟨rfl, hb7⟩
            have HB7 : Held (Below w.heap.size w w7) := ⟨HB6.out.trans (hb7.mono HB6.out.size)⟩
            clear hb7
            go_wp2
            go_ret
            exact ⟨rfl, HB7.out⟩
end Prt
end Go.Proofs.YtpbkmkclagikhaaDoor
