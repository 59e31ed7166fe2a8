/- partial's Take, Left, Parts: walked. -/
import Derived.Test.YtpbkmkclagikhaaDoorGre
namespace Go.Proofs.YtpbkmkclagikhaaDoor
set_option linter.unusedVariables false
set_option linter.unusedSimpArgs false
namespace Prt
open Go.RowKit Mem Dvs
theorem info_two : (Tryd.prog.info? 62).map (fun i => (i.zero, i.size, i.bytes)) = some (some (.agg #[.int .i64 0, .int .i64 0]), 2, 16) := by kernel_rfl
/-- Pairs of numbers as cells. -/
def prs : List (Nat × Nat) → List Value
  | [] => []
  | x :: l => .int .i64 x.1 :: .int .i64 x.2 :: prs l
theorem prs_append (l k : List (Nat × Nat)) : prs (l ++ k) = prs l ++ prs k := by
  induction l with
  | nil => rfl
  | cons x l ih => simp [prs, ih]
theorem prs_length (l : List (Nat × Nat)) : (prs l).length = l.length * 2 := by
  induction l with
  | nil => rfl
  | cons x l ih => simp [prs, ih]; omega
theorem prs_one (l : List (Nat × Nat)) : ∀ u ∈ prs l, u.oneCell' = true := by
  induction l with
  | nil => simp [prs]
  | cons x l ih =>
    intro u hu
    simp only [prs, List.mem_cons] at hu
    rcases hu with rfl | rfl | hu
    · rfl
    · rfl
    · exact ih u hu
theorem two_one (x y : Int) : ∀ u ∈ [Value.int .i64 x, Value.int .i64 y], u.oneCell' = true := by
  intro u hu
  simp only [List.mem_cons, List.not_mem_nil, or_false] at hu
  rcases hu with rfl | rfl <;> rfl
/-- An order at block B: its numbers, its parts. -/
structure Ord (w : World) (base B q a l m d p : Nat) (v : Value) (xs : List (Nat × Nat)) : Prop where
  blk : Blk w B 80 #[.int .i64 q, .int .i64 a, .int .i64 l, .int .i64 m, .int .i64 d, .int .i64 p, v]
  ge : base ≤ B
  own : w.ownsRow base 62 2 v xs.length (prs xs)
theorem Ord.keep {w w' : World} {base B q a l m d p : Nat} {v : Value} {xs : List (Nat × Nat)} {S : Nat → Prop} (h : Ord w base B q a l m d p v xs) (hk : Keep S w w') (hB : ¬ S B) (hv : ∀ k, v.ownBlock = some k → ¬ S k) : Ord w' base B q a l m d p v xs :=
  ⟨h.blk.keep hk hB, h.ge, hk.own h.own hv⟩
theorem Ord.below {w w' : World} {base B q a l m d p : Nat} {v : Value} {xs : List (Nat × Nat)} (h : Ord w base B q a l m d p v xs) (hk : Below w.heap.size w w') : Ord w' base B q a l m d p v xs :=
  h.keep (Keep.of_below hk (fun _ => False)) (fun h => h) (fun _ _ h => h)
theorem Ord.ne {w : World} {base B q a l m d p : Nat} {v : Value} {xs : List (Nat × Nat)} (h : Ord w base B q a l m d p v xs) : v.ownBlock ≠ some B := own_blk_ne h.own h.blk (by decide)
theorem own_slice {w : World} {base e size n : Nat} {v : Value} {xs : List Value} (h : w.ownsRow base e size v n xs) : ∃ A c, v = .slice A n c ∧ n ≤ c := by
  rcases h.2 with ⟨rfl, rfl⟩ | ⟨g, cap, cur, rfl, _, _, hc, _⟩
  · exact ⟨none, 0, rfl, Nat.le_refl _⟩
  · exact ⟨_, cap, rfl, hc⟩
set_option maxHeartbeats 8000000 in
set_option maxRecDepth 100000 in
theorem Take_in (base B q a l m d : Nat) (have_ cash : Int) (v : Value) (xs : List (Nat × Nat)) (w : World) (ho : Ord w base B q a l m d (shr q a d) v xs)
    (hq : 0 < q) (hqm : q ≤ 9223372036854775807) (ha : a ≤ 9223372036854775807) (hl : 0 < l) (hd : d ≤ q) (hh : -9223372036854775808 ≤ have_ ∧ have_ ≤ 9223372036854775807) (hx : xs.length ≤ 14000000000000) :
    Calls Tryd.prog 22 #[.pointer (some ⟨B, 0, none⟩), .int .i64 have_, .int .i64 cash] w fun e w' => ∃ (t : Nat) (v' : Value), e = .returned (.tuple #[.int .i64 t, .int .i64 (mny q a d t)]) ∧ Best q a l m d have_ cash t ∧
      Ord w' base B q a l m (d + t) (shr q a (d + t)) v' (if t = 0 then xs else xs ++ [(t, mny q a d t)]) ∧ Keep (fun k => k = B ∨ v.ownBlock = some k) w w' ∧ (v'.ownBlock = v.ownBlock ∨ ∃ b, v'.ownBlock = some b ∧ w.heap.size ≤ b) := by
  have HG := Held.mk (greatest_in B q a l m d (shr q a d) have_ cash v w ho.blk hq hqm ha hl hd hh)
  have HC := Held.mk (fun w hb p hp => cost_in B q a l m d (shr q a d) p v w hb hq hqm ha hp)
  have HLE := Held.mk (fun p (h : Best q a l m d have_ cash p) => h.le hl hd)
  have HO := Held.mk ho
  have HS := Held.mk (fun t (h : d + t ≤ q) => shr_le (a := a) hq h)
  obtain ⟨A, c, rfl, hc⟩ := own_slice ho.own
  clear ho hl
  go_enter Tryd.func22, Tryd.ntmps22
  go_wp2_with fail
  refine HG.out.mono ?_
  rintro e w1 ⟨⟨t, rfl, hbest⟩, hb1⟩
  have HBest := Held.mk hbest
  have HO1 := Held.mk (HO.out.below hb1)
  have HB1 := Held.mk hb1
  have htq := HLE.out t hbest
  clear hbest hb1
  by_cases h0 : t = 0
  · subst h0
    go_wp2
    go_ret2
    exact ⟨0, _, by rw [mny_zero]; rfl, HBest.out, by simpa using HO1.out, Keep.of_below HB1.out _, .inl rfl⟩
  · have i0 : ((t : Int) == 0) = false := beq_eq_false_iff_ne.2 (by omega)
    have it : (d : Int) + (t : Int) ≤ 9223372036854775807 := by omega
    have hs : shr q a d + mny q a d t = shr q a (d + t) := mny_add
    have is : (shr q a d : Int) + (mny q a d t : Int) ≤ 9223372036854775807 := by have := HS.out t (by omega); omega
    have HT := Held.mk htq
    have H0 := Held.mk h0
    have HSM := Held.mk hs
    have HX := Held.mk hx
    have HDQ := Held.mk hd
    clear htq h0 hs hqm ha hx hq hd
    go_wp2_with fail
    refine (HC.out _ HO1.out.blk t (by have := HT.out; have := HDQ.out; omega)).mono ?_
    rintro e w2 ⟨rfl, n1, rfl⟩
    generalize shr q a d = p0 at *
    generalize hmt : mny q a d t = mt at *
    have HMT := Held.mk hmt
    clear hmt
    have k4 := HO1.out.blk.cell 4
    have k5 := HO1.out.blk.cell 5
    have k6 := HO1.out.blk.cell 6
    have f4 := HO1.out.blk.frozen 4
    have f5 := HO1.out.blk.frozen 5
    have f6 := HO1.out.blk.frozen 6
    simp at k4 k5 k6
    have HKp : Held (Keep (fun k => k = B) w1 ((((w1.drewN n1).setCell ⟨B, 4, none⟩ (.int .i64 ((d : Int) + (t : Int)))).setCell ⟨B, 5, none⟩ (.int .i64 ((p0 : Int) + (mt : Int)))).alloc (.cells #[.int .i64 t, .int .i64 mt] 62))) :=
      ⟨((((Keep.refl (fun k => k = B) w1).drewN n1).setCell (fun _ => rfl) _).setCell (fun _ => rfl) _).alloc _⟩
    have HBk : Held (Blk ((((w1.drewN n1).setCell ⟨B, 4, none⟩ (.int .i64 ((d : Int) + (t : Int)))).setCell ⟨B, 5, none⟩ (.int .i64 ((p0 : Int) + (mt : Int)))).alloc (.cells #[.int .i64 t, .int .i64 mt] 62)) B 80
        #[.int .i64 q, .int .i64 a, .int .i64 l, .int .i64 m, .int .i64 ((d : Int) + (t : Int)), .int .i64 ((p0 : Int) + (mt : Int)), .slice A xs.length c]) := ⟨(((HO1.out.blk.drewN n1).set_ 4 _).set_ 5 _).alloc _⟩
    have HOw : Held (((((w1.drewN n1).setCell ⟨B, 4, none⟩ (.int .i64 ((d : Int) + (t : Int)))).setCell ⟨B, 5, none⟩ (.int .i64 ((p0 : Int) + (mt : Int)))).alloc (.cells #[.int .i64 t, .int .i64 mt] 62)).ownsRow base 62 2 (.slice A xs.length c) xs.length (prs xs)) :=
      ⟨HKp.out.own HO1.out.own (fun k hk e => HO1.out.ne (by rw [hk, e]))⟩
    have HRd : Held (RdV ((((w1.drewN n1).setCell ⟨B, 4, none⟩ (.int .i64 ((d : Int) + (t : Int)))).setCell ⟨B, 5, none⟩ (.int .i64 ((p0 : Int) + (mt : Int)))).alloc (.cells #[.int .i64 t, .int .i64 mt] 62)) (fun _ => True) 2 (some ⟨w1.heap.size, 0, none⟩) 1 [.int .i64 t, .int .i64 mt]) :=
      ⟨rfl, fun _ => ⟨_, rfl, trivial, by
        have := World.news_of_block (cs := #[.int .i64 t, .int .i64 mt]) (t := 62) (fr := (0, 0)) (heap_alloc_new (((w1.drewN n1).setCell ⟨B, 4, none⟩ (.int .i64 ((d : Int) + (t : Int)))).setCell ⟨B, 5, none⟩ (.int .i64 ((p0 : Int) + (mt : Int)))) (.cells #[.int .i64 t, .int .i64 mt] 62))
        simpa using this⟩⟩
    have hw1 : base ≤ w1.heap.size := by have := HO1.out.ge; have := HO1.out.blk.lt; omega
    go_wp2_with ((at_builtin; go_loud (refine appS _ base rfl (.tmp 39) (.tmp 43) 60 62 (.agg #[.int .i64 0, .int .i64 0]) 2 16 rfl Tryd.underlying60 info_two rfl (by decide) (by decide) _ xs.length (prs xs) rfl HOw.out (fun _ => True) (some ⟨w1.heap.size, 0, none⟩) 1 1 [.int .i64 t, .int .i64 mt] rfl HRd.out (two_one _ _) ?c3 ?c4 ?_)); (case c3 => (have := HX.out; omega)); (case c4 => (simp; omega)); (intro v2 w3 ho3 hg3 hat3); (have HB3 := Held.mk (HBk.out.keep (Keep.of_grown hg3) HO1.out.ne)); (have HO3 := Held.mk ho3); (have HG3 := Held.mk hg3); (have HA3 := Held.mk hat3); (have k6' := HB3.out.cell 6); (have f6' := HB3.out.frozen 6); (obtain ⟨A2, c2, rfl, _⟩ := own_slice ho3); (simp at k6'); (clear ho3 hg3 hat3))
    go_ret2
    have hg3 : ((((w1.drewN n1).setCell ⟨B, 4, none⟩ (.int .i64 ((d : Int) + (t : Int)))).setCell ⟨B, 5, none⟩ (.int .i64 ((p0 : Int) + (mt : Int)))).alloc (.cells #[.int .i64 t, .int .i64 mt] 62)).grownBy w3 (Value.slice A xs.length c).ownBlock := HG3.out
    have ha3 : (Value.slice A2 (xs.length + 1) c2).ownBlock = (Value.slice A xs.length c).ownBlock ∨ ∃ b, (Value.slice A2 (xs.length + 1) c2).ownBlock = some b ∧ ((((w1.drewN n1).setCell ⟨B, 4, none⟩ (.int .i64 ((d : Int) + (t : Int)))).setCell ⟨B, 5, none⟩ (.int .i64 ((p0 : Int) + (mt : Int)))).alloc (.cells #[.int .i64 t, .int .i64 mt] 62)).heap.size ≤ b := HA3.out
    have hk1 : Keep (fun k => k = B ∨ (Value.slice A xs.length c).ownBlock = some k) w w1 := Keep.of_below HB1.out _
    have hk2 := hk1.then HKp.out (fun i _ h => .inl h)
    have hk3 := hk2.grown hg3 (fun k _ h => .inr h)
    have hk4 := hk3.setCell (p := ⟨B, 6, none⟩) (fun _ => .inl rfl) (.slice A2 (xs.length + 1) c2)
    have hne : ∀ k, (Value.slice A2 (xs.length + 1) c2).ownBlock = some k → k ≠ B := fun k hk e => own_blk_ne HO3.out HB3.out (by decide) (hk.trans (by rw [e]))
    have e1 : ((d + t : Nat) : Int) = (d : Int) + (t : Int) := by omega
    have e2 : ((shr q a (d + t) : Nat) : Int) = (p0 : Int) + (mt : Int) := by rw [← HSM.out]; omega
    refine ⟨t, .slice A2 (xs.length + 1) c2, by rw [HMT.out]; rfl, HBest.out, ⟨?_, HO1.out.ge, ?_⟩, hk4, ?_⟩
    · rw [e1, e2]; exact HB3.out.set_ 6 _
    · rw [if_neg H0.out, HMT.out, prs_append, List.length_append]
      exact ((Keep.refl (fun k => k = B) w3).setCell (p := ⟨B, 6, none⟩) (fun _ => rfl) _).own HO3.out hne
    · rcases ha3 with h | ⟨b, h, hb⟩
      · exact .inl h
      · refine .inr ⟨b, h, Nat.le_trans hk2.size hb⟩
set_option maxHeartbeats 4000000 in
set_option maxRecDepth 100000 in
theorem Left_in (base B q a l m d p : Nat) (v : Value) (xs : List (Nat × Nat)) (w : World) (ho : Ord w base B q a l m d p v xs) (hd : d ≤ q) (hp : p ≤ a) (hqm : q ≤ 9223372036854775807) (ha : a ≤ 9223372036854775807) :
    Calls Tryd.prog 25 #[.pointer (some ⟨B, 0, none⟩)] w fun e w' => e = .returned (.tuple #[.int .i64 ((q : Int) - d), .int .i64 ((a : Int) - p)]) ∧ ∃ n, w' = w.drewN n := by
  have k0 := ho.blk.cell 0
  have k1 := ho.blk.cell 1
  have k4 := ho.blk.cell 4
  have k5 := ho.blk.cell 5
  simp at k0 k1 k4 k5
  have i1 : (d : Int) ≤ (q : Int) := by omega
  have i2 : (p : Int) ≤ (a : Int) := by omega
  have i3 : (q : Int) ≤ 9223372036854775807 := by omega
  have i4 : (a : Int) ≤ 9223372036854775807 := by omega
  clear ho hd hp hqm ha
  go_enter Tryd.func25, Tryd.ntmps25
  go_wp2
  go_quiet (fail)
  go_wp2
  go_ret2
  exact ⟨rfl, _, rfl⟩
set_option maxHeartbeats 4000000 in
set_option maxRecDepth 100000 in
theorem clone2_any (ok : Nat → Prop) (A : Option Addr) (n c : Nat) (xs : List (Nat × Nat)) (w : World) (hr : RdV w ok 2 A n (prs xs)) (hx : xs.length = n) (hl : n ≤ 14000000000000) (hc : n ≤ c) :
    Calls Tryd.prog 43 #[.slice A n c] w fun e w' => ∃ v', e = .returned v' ∧ w'.ownsRow w.heap.size 62 2 v' n (prs xs) ∧ Below w.heap.size w w' := by
  have Hr := Held.mk hr
  have HX := Held.mk hx
  clear hr hx
  cases A with
  | none =>
    have hnil := fun W => Lib.run_eql_slice_nil (P := Tryd.prog) W 60 62 none n c 0 0 Tryd.underlying60
    go_enter Tryd.func43, Tryd.ntmps43
    go_wp2
    go_ret
    have h0 : n = 0 := by
      rcases Nat.eq_zero_or_pos n with h | h
      · exact h
      · obtain ⟨_, h, _⟩ := Hr.out.2 h; cases h
    have : xs = [] := List.eq_nil_of_length_eq_zero (by rw [HX.out, h0])
    subst this
    subst h0
    exact ⟨_, rfl, own_nil _ _ _ _, Below.refl _ _⟩
  | some ad =>
    have hnil := fun W => Lib.run_eql_slice_nil (P := Tryd.prog) W 60 62 (some ad) n c 0 0 Tryd.underlying60
    go_enter Tryd.func43, Tryd.ntmps43
    go_wp2_with (at_builtin; go_loud (refine appS _ w.heap.size rfl (.tmp 5) (.tmp 6) 60 62 (.agg #[.int .i64 0, .int .i64 0]) 2 16 rfl Tryd.underlying60 info_two rfl (by decide) (by decide) _ 0 [] rfl ?c1 ok (some ad) n c (prs xs) rfl ?c2 (prs_one _) ?c3 ?c4 ?_); (case c1 => exact own_empty w _ _); (case c2 => exact Hr.out.keep ((Keep.refl (fun _ => False) w).alloc _) (fun _ _ h => h)); (case c3 => omega); (case c4 => (simp)); intro v1 w1 ho1 hg1 hat1)
    go_ret
    refine ⟨_, rfl, ?_, (((Keep.refl (fun _ => False) w).alloc _).grown hg1 (fun k hk e => ?_)).to_below (fun _ _ h => h)⟩
    · have := ho1
      simp only [Nat.zero_add, List.nil_append] at this
      exact this
    · simp [Value.ownBlock, Act.eval] at e
      omega
set_option maxHeartbeats 4000000 in
set_option maxRecDepth 100000 in
theorem Parts_in (base B q a l m d p : Nat) (v : Value) (xs : List (Nat × Nat)) (w : World) (ho : Ord w base B q a l m d p v xs) (hx : xs.length ≤ 14000000000000) :
    Calls Tryd.prog 26 #[.pointer (some ⟨B, 0, none⟩)] w fun e w' => ∃ v', e = .returned v' ∧ w'.ownsRow w.heap.size 62 2 v' xs.length (prs xs) ∧ Below w.heap.size w w' := by
  obtain ⟨A, c, rfl, hc, hr⟩ := RdV.of_own ho.own
  have hcell := ho.blk.cell 6
  simp at hcell
  have Hr := Held.mk hr
  clear hr ho
  go_enter Tryd.func26, Tryd.ntmps26
  go_wp2_with fail
  refine (clone2_any _ A _ c xs _ Hr.out rfl hx hc).mono ?_
  rintro e w1 ⟨v1, rfl, ho1, hb1⟩
  have Ho := Held.mk ho1
  clear ho1
  go_wp2
  go_ret
  exact ⟨_, rfl, Ho.out, hb1⟩
end Prt
end Go.Proofs.YtpbkmkclagikhaaDoor
