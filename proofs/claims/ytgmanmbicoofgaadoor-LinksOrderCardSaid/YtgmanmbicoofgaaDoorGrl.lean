/- LinksGroups: the walk. -/
import Derived.Test.YtgmanmbicoofgaaDoorGpb
import Derived.Test.YtgmanmbicoofgaaDoorKtw
import Derived.Test.YtgmanmbicoofgaaDoorApi
import Derived.Test.YtgmanmbicoofgaaDoorWk2
namespace Go.Proofs.YtgmanmbicoofgaaDoor
set_option linter.unusedVariables false
set_option linter.unusedSimpArgs false
namespace Grp
open Go.RowKit Mem Err Aps
theorem Ans.len {n : Int} {l : List Two} {G : List Nat} {E : Value} {no at_ : Int} (h : Ans n l G E no at_) : G.length ≤ 4096 := by
  cases h with
  | neg _ => simp
  | many _ => simp
  | lost _ _ _ _ _ _ => simp
  | fine h0 h1 _ => rw [Ord.row_len]; omega
theorem own_rd {w : World} {base : Nat} {v : Value} {G : List Nat} (h : w.ownsRow base 3 1 v G.length (ints G)) : ∃ A c, v = .slice A G.length c ∧ RdN w (fun k => v.ownBlock = some k) .i64 A G.length (G.map fun k : Nat => (k : Int)) := by
  obtain ⟨A, c, e, _, hr⟩ := RdV.of_own h
  refine ⟨A, c, e, ?_⟩
  unfold RdN
  rw [Ord.nums_ints]
  exact hr
theorem apart_two (wb wm W : World) (hbm : wb.heap.size ≤ wm.heap.size) (v1 v2 : Value) (G : List Nat) (h1 : W.ownsRow wb.heap.size 3 1 v1 G.length (ints G)) (h1l : ∀ k, v1.ownBlock = some k → k < wm.heap.size) (h2 : W.ownsRow wm.heap.size 3 1 v2 G.length (ints G))
    (hL : G.length ≤ 4096) (hbW : wb.heap.size ≤ W.heap.size) :
    Calls Tryd.prog 14 #[.slice (some ⟨W.heap.size, 0, none⟩) 2 2] (W.alloc (.cells #[v1, v2] 23)) fun e w' => e = .returned (.bool true) ∧ Keep (fun k => v1.ownBlock = some k ∨ v2.ownBlock = some k) (W.alloc (.cells #[v1, v2] 23)) w' := by
  have hr := Aps.rd_lit W [v1, v2] 1 2 23 rfl
  have hO : ∀ b, Tch (two_ v1 v2) 2 b → ¬ b = W.heap.size := by
    intro b h e
    subst e
    rcases two_tch h with h | h
    · have := own_lt h1 _ h
      omega
    · have := own_lt h2 _ h
      omega
  refine (AptInts.apart_in wb.heap.size 2 _ 2 (two_ v1 v2) (fun _ => G.length) (fun b => b = W.heap.size) _ hr (by simp; omega) ?_ (two_fst fun b h3 h4 => by have := h1l b h3; have := own_ge h2 b h4; omega) hO (by omega) (fun _ => by omega)).mono ?_
  · intro j hj
    have hc : j = 0 ∨ j = 1 := by omega
    rcases hc with rfl | rfl
    · exact ⟨_, World.ownsRow.alloc h1 _⟩
    · exact ⟨_, World.ownsRow.alloc (own_rebase h2 (base' := wb.heap.size) (fun k hk => by have := own_ge h2 k hk; omega)) _⟩
  · rintro e w' ⟨rfl, hk⟩
    exact ⟨rfl, hk.mono (fun i _ h => two_tch h)⟩
set_option maxHeartbeats 4000000 in
set_option maxRecDepth 100000 in
theorem linksGroups_any (n : Int) (A : Option Addr) (m c : Nat) (l : List Two) (w : World) (hg : Laid w) (hm : m = l.length) (hb : m ≤ 8796093022208) (h : RdT w (fun k => k < w.heap.size) A l) :
    Calls Tryd.prog 3 #[.int .i64 n, .slice A m c] w fun e w' => e = .returned (.bool true) ∧ Below w.heap.size w w' := by
  obtain ⟨G, E, no, at_, hans⟩ := Ans.some n l
  have HG := Held.mk hg
  have HM := Held.mk hm
  have HAns := Held.mk hans
  have HR : Held (∀ W, Below w.heap.size w W → RdT W (fun k => k < w.heap.size) A l) := ⟨fun W hW => RdV.keep h (Keep.of_below hW (fun _ => False)) (fun _ _ h => h)⟩
  have HRw : Held (∀ W, Below w.heap.size w W → RdT W (fun k => k < W.heap.size) A l) := ⟨fun W hW => (HR.out W hW).mono (fun k hk => Nat.lt_of_lt_of_le hk hW.size)⟩
  have HGl : Held (G.length ≤ 4096) := ⟨hans.len⟩
  have HH := Held.mk h
  clear hg hm hans h
  go_enter Tryd.func3, Tryd.ntmps3
  go_wp2_with fail
  refine (rGroups_any n A m c l _ w G E no at_ HAns.out HM.out hb HH.out (fun k hk => hk)).mono ?_
  rintro e w1 ⟨v1, rfl, ho1, hb1⟩
  obtain ⟨A1, c1, rfl, hr1⟩ := own_rd ho1
  have HB1 := Held.mk hb1
  have HR1 := Held.mk hr1
  clear ho1 hb1 hr1
  go_wp2_with fail
  refine (Ktw.lent_any A m c l w1 HM.out (HRw.out _ HB1.out) hb).mono ?_
  rintro e w2 ⟨g, c2, rfl, hl2, hb2⟩
  have HLn := Held.mk hl2
  have HB12 := Held.mk hb2
  have HB2 : Held (Below w.heap.size w w2) := ⟨HB1.out.trans (hb2.mono HB1.out.size)⟩
  have HG2 : Held (g < w2.heap.size) := ⟨own_lt hl2.own g rfl⟩
  have HG1 : Held (w1.heap.size ≤ g) := ⟨hl2.ge⟩
  clear hl2 hb2
  go_wp2_with fail
  refine (Groups_any n (some ⟨g, 0, none⟩) m c2 l _ w2 G E no at_ HAns.out HM.out hb HLn.out.rd (fun k hk => by have := HG2.out; omega)).mono ?_
  rintro e w3 ⟨v3, rfl, ho3, hb3⟩
  obtain ⟨A3, c3, rfl, hr3⟩ := own_rd ho3
  have HB23 := Held.mk hb3
  have HO3 := Held.mk ho3
  have HR3 := Held.mk hr3
  have HLn3 := Held.mk (HLn.out.keep (Keep.of_below hb3 (fun _ => False)) (fun h => h))
  clear ho3 hb3 hr3
  go_wp2_with fail
  refine (Groups_any n (some ⟨g, 0, none⟩) m c2 l _ w3 G E no at_ HAns.out HM.out hb HLn3.out.rd (fun k hk => by have := HG2.out; have := HB23.out.size; omega)).mono ?_
  rintro e w4 ⟨v4, rfl, ho4, hb4⟩
  obtain ⟨A4, c4, rfl, hr4⟩ := own_rd ho4
  have HB34 := Held.mk hb4
  have HB24 : Held (Below w2.heap.size w2 w4) := ⟨HB23.out.trans (hb4.mono HB23.out.size)⟩
  have HB14 : Held (Below w1.heap.size w1 w4) := ⟨HB12.out.trans (HB24.out.mono HB12.out.size)⟩
  have HB4 : Held (Below w.heap.size w w4) := ⟨HB1.out.trans (HB14.out.mono HB1.out.size)⟩
  have HO4 := Held.mk ho4
  have HR4 := Held.mk hr4
  clear ho4 hb4 hr4
  have HTd : Held (∀ W, Laid W → Calls Tryd.prog 11 #[E, .int .i64 no, .int .i64 0, .int .i64 at_] W fun e w' => e = .returned (.bool true) ∧ Below W.heap.size W w') := ⟨fun W hW => told_any n l G E no at_ W HAns.out hW⟩
  go_wp2_with fail
  refine (HTd.out _ (HG.out.below HB4.out)).mono ?_
  rintro e w5 ⟨rfl, hb5⟩
  have HB45 := Held.mk hb5
  clear hb5
  go_wp2_with fail
  refine (HTd.out _ (HG.out.below (HB4.out.trans (HB45.out.mono HB4.out.size)))).mono ?_
  rintro e w6 ⟨rfl, hb6⟩
  have HB46 : Held (Below w4.heap.size w4 w6) := ⟨HB45.out.trans (hb6.mono HB45.out.size)⟩
  have HS : Held (∀ q, RdN (w6.drewN q) _ .i64 A1 G.length (G.map fun k : Nat => (k : Int)) ∧ RdN (w6.drewN q) _ .i64 A3 G.length (G.map fun k : Nat => (k : Int)) ∧ RdN (w6.drewN q) _ .i64 A4 G.length (G.map fun k : Nat => (k : Int))) := ⟨fun q => ⟨RdV.keep HR1.out (Keep.of_below (HB14.out.trans ((below_drwN HB46.out q).mono HB14.out.size)) (fun _ => False)) (fun _ _ h => h), RdV.keep HR3.out (Keep.of_below (HB34.out.trans ((below_drwN HB46.out q).mono HB34.out.size)) (fun _ => False)) (fun _ _ h => h), RdV.keep HR4.out (Keep.of_below (below_drwN HB46.out q) (fun _ => False)) (fun _ _ h => h)⟩⟩
  have HSa := Held.mk (Ord.sameInts_in _ _ A3 A1 G.length c3 c1 _ w6 (HS.out 0).2.1 (HS.out 0).1 (by have := HGl.out; omega))
  have HSb := Held.mk (fun q => Ord.sameInts_in _ _ A4 A1 G.length c4 c1 _ (w6.drewN q) (HS.out q).2.2 (HS.out q).1 (by have := HGl.out; omega))
  clear hb6 HB45 HS HTd
  go_wp2_with fail
  refine HSa.out.mono ?_
  rintro e w7 ⟨rfl, m7, rfl⟩
  go_wp2_with fail
  refine (HSb.out m7).mono ?_
  rintro e w7 ⟨rfl, m8, rfl⟩
  have HB48 : Held (Below w4.heap.size w4 ((w6.drewN m7).drewN m8)) := ⟨below_drwN (below_drwN HB46.out _) _⟩
  clear HSa HSb HB46
  generalize (w6.drewN m7).drewN m8 = w8 at *
  go_wp2_with fail
  refine (Ord.works_any w8).mono ?_
  rintro e wa ⟨rfl, hb9⟩
  have HBa : Held (Below w4.heap.size w4 wa) := ⟨HB48.out.trans (hb9.mono HB48.out.size)⟩
  have HB3a : Held (Below w3.heap.size w3 wa) := ⟨HB34.out.trans (HBa.out.mono HB34.out.size)⟩
  have HB2a : Held (Below w2.heap.size w2 wa) := ⟨HB24.out.trans (HBa.out.mono HB24.out.size)⟩
  clear hb9 HB48
  have HAp := Held.mk (apart_two w2 w3 wa HB23.out.size (.slice A3 G.length c3) (.slice A4 G.length c4) G ((Keep.of_below HB3a.out (fun _ => False)).own HO3.out (fun _ _ h => h)) (fun k hk => own_lt HO3.out k hk) ((Keep.of_below HBa.out (fun _ => False)).own HO4.out (fun _ _ h => h)) HGl.out HB2a.out.size)
  go_wp2_with fail
  refine HAp.out.mono ?_
  rintro e wb ⟨rfl, hkb⟩
  have HT : Held (∀ k, ((Value.slice A3 G.length c3).ownBlock = some k ∨ (Value.slice A4 G.length c4).ownBlock = some k) → w2.heap.size ≤ k) := ⟨fun k h => by
    rcases h with h | h
    · exact own_ge HO3.out k h
    · have := own_ge HO4.out k h
      have := HB23.out.size
      omega⟩
  have HB2b : Held (Below w2.heap.size w2 wb) := ⟨((Keep.of_below (HB2a.out.alloc HB2a.out.size (.cells #[.slice A3 G.length c3, .slice A4 G.length c4] 23)) (fun _ => False)).then hkb (fun k hk h => absurd hk (Nat.not_lt.2 (HT.out k h)))).to_below (fun _ _ h => h)⟩
  have HBb : Held (Below w.heap.size w wb) := ⟨HB2.out.trans (HB2b.out.mono HB2.out.size)⟩
  have HK2 := Held.mk (Ktw.kept_any A w1.heap.size g m c2 c l wb (HLn.out.keep (Keep.of_below HB2b.out (fun _ => False)) (fun h => h)) (HRw.out _ HBb.out) hb)
  clear hkb HAp
  go_wp2_with fail
  refine HK2.out.mono ?_
  rintro e wc ⟨rfl, hbc⟩
  have HBc : Held (Below w.heap.size w wc) := ⟨HBb.out.trans (hbc.mono HBb.out.size)⟩
  clear hbc HK2
  go_wp2_with fail
  go_ret
  exact ⟨rfl, HBc.out⟩
end Grp
end Go.Proofs.YtgmanmbicoofgaaDoor
