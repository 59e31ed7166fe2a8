/- The document's Take: walked. -/
import Derived.Test.YtpbkmkclagikhaaDoorRbs
namespace Go.Proofs.YtpbkmkclagikhaaDoor
set_option linter.unusedVariables false
set_option linter.unusedSimpArgs false
namespace Prt
open Go.RowKit Mem Dvs Err
set_option maxHeartbeats 8000000 in
set_option maxRecDepth 100000 in
theorem rTake_in (base B q a l m d : Nat) (have_ cash : Int) (v : Value) (xs : List (Nat × Nat)) (w : World) (ho : ROrd w base B q a l m d (shr q a d) v xs)
    (hq : 0 < q) (hqm : q ≤ 9223372036854775807) (ha : a ≤ 9223372036854775807) (hl : 0 < l) (hd : d ≤ q) (hh : -9223372036854775808 ≤ have_ ∧ have_ ≤ 9223372036854775807) (hx : xs.length ≤ 14000000000000) :
    Calls Tryd.prog 23 #[.pointer (some ⟨B, 0, none⟩), .int .i64 have_, .int .i64 cash] w fun e w' => ∃ (t : Nat) (v' : Value), e = .returned (.tuple #[.int .i64 t, .int .i64 (mny q a d t)]) ∧ Best q a l m d have_ cash t ∧
      ROrd w' base B q a l m (d + t) (shr q a (d + t)) v' (if t = 0 then xs else xs ++ [(t, mny q a d t)]) ∧ Keep (fun k => k = B ∨ v.ownBlock = some k) w w' ∧ (v'.ownBlock = v.ownBlock ∨ ∃ b, v'.ownBlock = some b ∧ w.heap.size ≤ b) := by
  have HG := Held.mk (best_in B q a l m d (shr q a d) have_ cash v w ho.blk hq hqm ha hl hd hh)
  have HC := Held.mk (fun w hb p hp => rmoney_in B q a l m d (shr q a d) p v w hb hq hqm ha hp)
  have HLE := Held.mk (fun p (h : Best q a l m d have_ cash p) => h.le hl hd)
  have HO := Held.mk ho
  have HS := Held.mk (fun t (h : d + t ≤ q) => shr_le (a := a) hq h)
  obtain ⟨A, c, rfl, hc⟩ := own_slice ho.own
  clear ho hl
  go_enter Tryd.func23, Tryd.ntmps23
  go_wp2_with fail
  refine HG.out.mono ?_
  rintro e w1 ⟨⟨t, rfl, hbest⟩, hb1⟩
  have HBest := Held.mk hbest
  have HO1 := Held.mk (HO.out.below hb1)
  have HB1 := Held.mk hb1
  have htq := HLE.out t hbest
  clear hbest hb1
  by_cases h0 : t = 0
  · subst h0
    go_wp2
    go_ret2
    exact ⟨0, _, by rw [mny_zero]; rfl, HBest.out, by simpa using HO1.out, Keep.of_below HB1.out _, .inl rfl⟩
  · have i0 : decide ((t : Int) < 1) = false := decide_eq_false (by omega)
    have it : (d : Int) + (t : Int) ≤ 9223372036854775807 := by omega
    have hs : shr q a d + mny q a d t = shr q a (d + t) := mny_add
    have is : (shr q a d : Int) + (mny q a d t : Int) ≤ 9223372036854775807 := by have := HS.out t (by omega); omega
    have HT := Held.mk htq
    have H0 := Held.mk h0
    have HSM := Held.mk hs
    have HX := Held.mk hx
    have HDQ := Held.mk hd
    clear htq h0 hs hqm ha hx hq hd
    go_wp2_with fail
    refine (HC.out _ HO1.out.blk t (by have := HT.out; have := HDQ.out; omega)).mono ?_
    rintro e w2 ⟨rfl, hb2⟩
    have HO2 := Held.mk (HO1.out.below hb2)
    have HB2 := Held.mk (HB1.out.trans (hb2.mono HB1.out.size))
    clear HO1 HB1 hb2
    generalize shr q a d = p0 at *
    generalize hmt : mny q a d t = mt at *
    have HMT := Held.mk hmt
    clear hmt
    have k4 := HO2.out.blk.cell 4
    have k5 := HO2.out.blk.cell 5
    have k6 := HO2.out.blk.cell 6
    have f4 := HO2.out.blk.frozen 4
    have f5 := HO2.out.blk.frozen 5
    have f6 := HO2.out.blk.frozen 6
    simp at k4 k5 k6
    have HKp : Held (Keep (fun k => k = B) w2 (((w2.setCell ⟨B, 4, none⟩ (.int .i64 ((d : Int) + (t : Int)))).setCell ⟨B, 5, none⟩ (.int .i64 ((p0 : Int) + (mt : Int)))).alloc (.cells #[.int .i64 t, .int .i64 mt] 62))) :=
      ⟨(((Keep.refl (fun k => k = B) w2).setCell (fun _ => rfl) _).setCell (fun _ => rfl) _).alloc _⟩
    have HBk : Held (Blk (((w2.setCell ⟨B, 4, none⟩ (.int .i64 ((d : Int) + (t : Int)))).setCell ⟨B, 5, none⟩ (.int .i64 ((p0 : Int) + (mt : Int)))).alloc (.cells #[.int .i64 t, .int .i64 mt] 62)) B 82
        #[.int .i64 q, .int .i64 a, .int .i64 l, .int .i64 m, .int .i64 ((d : Int) + (t : Int)), .int .i64 ((p0 : Int) + (mt : Int)), .slice A xs.length c]) := ⟨((HO2.out.blk.set_ 4 _).set_ 5 _).alloc _⟩
    have HOw : Held ((((w2.setCell ⟨B, 4, none⟩ (.int .i64 ((d : Int) + (t : Int)))).setCell ⟨B, 5, none⟩ (.int .i64 ((p0 : Int) + (mt : Int)))).alloc (.cells #[.int .i64 t, .int .i64 mt] 62)).ownsRow base 62 2 (.slice A xs.length c) xs.length (prs xs)) :=
      ⟨HKp.out.own HO2.out.own (fun k hk e => HO2.out.ne (by rw [hk, e]))⟩
    have HRd : Held (RdV (((w2.setCell ⟨B, 4, none⟩ (.int .i64 ((d : Int) + (t : Int)))).setCell ⟨B, 5, none⟩ (.int .i64 ((p0 : Int) + (mt : Int)))).alloc (.cells #[.int .i64 t, .int .i64 mt] 62)) (fun _ => True) 2 (some ⟨w2.heap.size, 0, none⟩) 1 [.int .i64 t, .int .i64 mt]) :=
      ⟨rfl, fun _ => ⟨_, rfl, trivial, by
        have := World.news_of_block (cs := #[.int .i64 t, .int .i64 mt]) (t := 62) (fr := (0, 0)) (heap_alloc_new ((w2.setCell ⟨B, 4, none⟩ (.int .i64 ((d : Int) + (t : Int)))).setCell ⟨B, 5, none⟩ (.int .i64 ((p0 : Int) + (mt : Int)))) (.cells #[.int .i64 t, .int .i64 mt] 62))
        simpa using this⟩⟩
    have hw1 : base ≤ w2.heap.size := by have := HO2.out.ge; have := HO2.out.blk.lt; omega
    go_wp2_with ((at_builtin; go_loud (refine appS _ base rfl (.tmp 41) (.tmp 45) 60 62 (.agg #[.int .i64 0, .int .i64 0]) 2 16 rfl Tryd.underlying60 info_two rfl (by decide) (by decide) _ xs.length (prs xs) rfl HOw.out (fun _ => True) (some ⟨w2.heap.size, 0, none⟩) 1 1 [.int .i64 t, .int .i64 mt] rfl HRd.out (two_one _ _) ?c3 ?c4 ?_)); (case c3 => (have := HX.out; omega)); (case c4 => (simp; omega)); (intro v2 w3 ho3 hg3 hat3); (have HB3 := Held.mk (HBk.out.keep (Keep.of_grown hg3) HO2.out.ne)); (have HO3 := Held.mk ho3); (have HG3 := Held.mk hg3); (have HA3 := Held.mk hat3); (have k6' := HB3.out.cell 6); (have f6' := HB3.out.frozen 6); (obtain ⟨A2, c2, rfl, _⟩ := own_slice ho3); (simp at k6'); (clear ho3 hg3 hat3))
    go_ret2
    have hg3 : (((w2.setCell ⟨B, 4, none⟩ (.int .i64 ((d : Int) + (t : Int)))).setCell ⟨B, 5, none⟩ (.int .i64 ((p0 : Int) + (mt : Int)))).alloc (.cells #[.int .i64 t, .int .i64 mt] 62)).grownBy w3 (Value.slice A xs.length c).ownBlock := HG3.out
    have ha3 : (Value.slice A2 (xs.length + 1) c2).ownBlock = (Value.slice A xs.length c).ownBlock ∨ ∃ b, (Value.slice A2 (xs.length + 1) c2).ownBlock = some b ∧ (((w2.setCell ⟨B, 4, none⟩ (.int .i64 ((d : Int) + (t : Int)))).setCell ⟨B, 5, none⟩ (.int .i64 ((p0 : Int) + (mt : Int)))).alloc (.cells #[.int .i64 t, .int .i64 mt] 62)).heap.size ≤ b := HA3.out
    have hk1 : Keep (fun k => k = B ∨ (Value.slice A xs.length c).ownBlock = some k) w w2 := Keep.of_below HB2.out _
    have hk2 := hk1.then HKp.out (fun i _ h => .inl h)
    have hk3 := hk2.grown hg3 (fun k _ h => .inr h)
    have hk4 := hk3.setCell (p := ⟨B, 6, none⟩) (fun _ => .inl rfl) (.slice A2 (xs.length + 1) c2)
    have hne : ∀ k, (Value.slice A2 (xs.length + 1) c2).ownBlock = some k → k ≠ B := fun k hk e => own_blk_ne HO3.out HB3.out (by decide) (hk.trans (by rw [e]))
    have e1 : ((d + t : Nat) : Int) = (d : Int) + (t : Int) := by omega
    have e2 : ((shr q a (d + t) : Nat) : Int) = (p0 : Int) + (mt : Int) := by rw [← HSM.out]; omega
    refine ⟨t, .slice A2 (xs.length + 1) c2, by rw [HMT.out]; rfl, HBest.out, ⟨?_, HO2.out.ge, ?_⟩, hk4, ?_⟩
    · rw [e1, e2]; exact HB3.out.set_ 6 _
    · rw [if_neg H0.out, HMT.out, prs_append, List.length_append]
      exact ((Keep.refl (fun k => k = B) w3).setCell (p := ⟨B, 6, none⟩) (fun _ => rfl) _).own HO3.out hne
    · rcases ha3 with h | ⟨b, h, hb⟩
      · exact .inl h
      · refine .inr ⟨b, h, Nat.le_trans hk2.size hb⟩
end Prt
end Go.Proofs.YtpbkmkclagikhaaDoor
