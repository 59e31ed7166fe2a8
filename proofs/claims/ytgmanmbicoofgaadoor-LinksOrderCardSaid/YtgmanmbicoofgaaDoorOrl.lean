/- LinksOrder: the walk. -/
import Derived.Test.YtgmanmbicoofgaaDoorGrl
import Derived.Test.YtgmanmbicoofgaaDoorOra
namespace Go.Proofs.YtgmanmbicoofgaaDoor
set_option linter.unusedVariables false
set_option linter.unusedSimpArgs false
namespace Grp
open Go.RowKit Mem Err Aps
set_option maxHeartbeats 4000000 in
set_option maxRecDepth 100000 in
theorem linksOrder_any (n : Int) (A Ap : Option Addr) (m c np cp : Nat) (l : List Two) (prs : List Int) (w : World) (hg : Laid w) (hm : m = l.length) (hb : m ≤ 8796093022208) (h : RdT w (fun k => k < w.heap.size) A l) (hbp : np ≤ 17592186043904) (hrp : RdN w (fun k => k < w.heap.size) .i64 Ap np prs) :
    Calls Tryd.prog 4 #[.int .i64 n, .slice A m c, .slice Ap np cp] w fun e w' => e = .returned (.bool true) ∧ Below w.heap.size w w' := by
  obtain ⟨G, E, no, at_, hans⟩ := Anz.some n l prs
  have HNp : Held (np = prs.length) := ⟨hrp.len.symm⟩
  have HRp : Held (∀ W, Below w.heap.size w W → RdN W (fun k => k < w.heap.size) .i64 Ap np prs) := ⟨fun W hW => RdN.keep hrp (Keep.of_below hW (fun _ => False)) (fun _ _ h => h)⟩
  have HHp := Held.mk hrp
  have HBp := Held.mk hbp
  have HG := Held.mk hg
  have HM := Held.mk hm
  have HAns := Held.mk hans
  have HR : Held (∀ W, Below w.heap.size w W → RdT W (fun k => k < w.heap.size) A l) := ⟨fun W hW => RdV.keep h (Keep.of_below hW (fun _ => False)) (fun _ _ h => h)⟩
  have HRw : Held (∀ W, Below w.heap.size w W → RdT W (fun k => k < W.heap.size) A l) := ⟨fun W hW => (HR.out W hW).mono (fun k hk => Nat.lt_of_lt_of_le hk hW.size)⟩
  have HGl : Held (G.length ≤ 4096) := ⟨hans.len⟩
  have HH := Held.mk h
  clear hg hm hans h hrp hbp
  go_enter Tryd.func4, Tryd.ntmps4
  go_wp2_with fail
  refine (rOrder_any n A Ap m c np cp l prs _ _ w G E no at_ HAns.out HM.out HNp.out hb (by have := HBp.out; omega) HH.out (fun k hk => hk) HHp.out (fun k hk => hk)).mono ?_
  rintro e w1 ⟨v1, rfl, ho1, hb1⟩
  obtain ⟨A1, c1, rfl, hr1⟩ := own_rd ho1
  have HB1 := Held.mk hb1
  have HR1 := Held.mk hr1
  clear ho1 hb1 hr1
  go_wp2_with fail
  refine (Ktw.lent_any A m c l w1 HM.out (HRw.out _ HB1.out) hb).mono ?_
  rintro e w2 ⟨g, c2, rfl, hl2, hb2⟩
  have HLn := Held.mk hl2
  have HB12 := Held.mk hb2
  have HB2 : Held (Below w.heap.size w w2) := ⟨HB1.out.trans (hb2.mono HB1.out.size)⟩
  have HG2 : Held (g < w2.heap.size) := ⟨own_lt hl2.own g rfl⟩
  have HG1 : Held (w1.heap.size ≤ g) := ⟨hl2.ge⟩
  clear hl2 hb2
  go_wp2_with fail
  refine (Kit.lent_any _ Ap np cp prs w2 (HRp.out _ HB2.out) HBp.out).mono ?_
  rintro e wl ⟨gp, cq, rfl, hlp, hbl⟩
  have HLp := Held.mk hlp
  have HLq := Held.mk (HLn.out.keep (Keep.of_below hbl (fun _ => False)) (fun h => h))
  have HB2l := Held.mk hbl
  have HBl : Held (Below w.heap.size w wl) := ⟨HB2.out.trans (hbl.mono HB2.out.size)⟩
  have HGp2 : Held (gp < wl.heap.size) := ⟨own_lt hlp.own gp rfl⟩
  have HGp1 : Held (w2.heap.size ≤ gp) := ⟨hlp.ge⟩
  clear hlp hbl
  go_wp2_with fail
  refine (Order_any n (some ⟨g, 0, none⟩) (some ⟨gp, 0, none⟩) m c2 np cq l prs _ _ wl G E no at_ HAns.out HM.out HNp.out hb (by have := HBp.out; omega) HLq.out.rd (fun k hk => by have := HG2.out; have := HB2l.out.size; omega) HLp.out.rd (fun k hk => by have := HGp2.out; omega)).mono ?_
  rintro e w3 ⟨v3, rfl, ho3, hb3⟩
  obtain ⟨A3, c3, rfl, hr3⟩ := own_rd ho3
  have HB23 := Held.mk hb3
  have HO3 := Held.mk ho3
  have HR3 := Held.mk hr3
  have HLn3 := Held.mk (HLq.out.keep (Keep.of_below hb3 (fun _ => False)) (fun h => h))
  have HLp3 := Held.mk (HLp.out.keep (Keep.of_below hb3 (fun _ => False)) (fun h => h))
  clear ho3 hb3 hr3
  go_wp2_with fail
  refine (Order_any n (some ⟨g, 0, none⟩) (some ⟨gp, 0, none⟩) m c2 np cq l prs _ _ w3 G E no at_ HAns.out HM.out HNp.out hb (by have := HBp.out; omega) HLn3.out.rd (fun k hk => by have := HG2.out; have := HB2l.out.size; have := HB23.out.size; omega) HLp3.out.rd (fun k hk => by have := HGp2.out; have := HB23.out.size; omega)).mono ?_
  rintro e w4 ⟨v4, rfl, ho4, hb4⟩
  obtain ⟨A4, c4, rfl, hr4⟩ := own_rd ho4
  have HB34 := Held.mk hb4
  have HBl4 : Held (Below wl.heap.size wl w4) := ⟨HB23.out.trans (hb4.mono HB23.out.size)⟩
  have HB24 : Held (Below w2.heap.size w2 w4) := ⟨HB2l.out.trans (HBl4.out.mono HB2l.out.size)⟩
  have HB14 : Held (Below w1.heap.size w1 w4) := ⟨HB12.out.trans (HB24.out.mono HB12.out.size)⟩
  have HB4 : Held (Below w.heap.size w w4) := ⟨HB1.out.trans (HB14.out.mono HB1.out.size)⟩
  have HO4 := Held.mk ho4
  have HR4 := Held.mk hr4
  clear ho4 hb4 hr4
  have HTd : Held (∀ W, Laid W → Calls Tryd.prog 11 #[E, .int .i64 no, .int .i64 0, .int .i64 at_] W fun e w' => e = .returned (.bool true) ∧ Below W.heap.size W w') := ⟨fun W hW => told_anz n l prs G E no at_ W HAns.out hW⟩
  go_wp2_with fail
  refine (HTd.out _ (HG.out.below HB4.out)).mono ?_
  rintro e w5 ⟨rfl, hb5⟩
  have HB45 := Held.mk hb5
  clear hb5
  go_wp2_with fail
  refine (HTd.out _ (HG.out.below (HB4.out.trans (HB45.out.mono HB4.out.size)))).mono ?_
  rintro e w6 ⟨rfl, hb6⟩
  have HB46 : Held (Below w4.heap.size w4 w6) := ⟨HB45.out.trans (hb6.mono HB45.out.size)⟩
  have HS : Held (∀ q, RdN (w6.drewN q) _ .i64 A1 G.length (G.map fun k : Nat => (k : Int)) ∧ RdN (w6.drewN q) _ .i64 A3 G.length (G.map fun k : Nat => (k : Int)) ∧ RdN (w6.drewN q) _ .i64 A4 G.length (G.map fun k : Nat => (k : Int))) := ⟨fun q => ⟨RdV.keep HR1.out (Keep.of_below (HB14.out.trans ((below_drwN HB46.out q).mono HB14.out.size)) (fun _ => False)) (fun _ _ h => h), RdV.keep HR3.out (Keep.of_below (HB34.out.trans ((below_drwN HB46.out q).mono HB34.out.size)) (fun _ => False)) (fun _ _ h => h), RdV.keep HR4.out (Keep.of_below (below_drwN HB46.out q) (fun _ => False)) (fun _ _ h => h)⟩⟩
  have HSa := Held.mk (Ord.sameInts_in _ _ A3 A1 G.length c3 c1 _ w6 (HS.out 0).2.1 (HS.out 0).1 (by have := HGl.out; omega))
  have HSb := Held.mk (fun q => Ord.sameInts_in _ _ A4 A1 G.length c4 c1 _ (w6.drewN q) (HS.out q).2.2 (HS.out q).1 (by have := HGl.out; omega))
  clear hb6 HB45 HS HTd
  go_wp2_with fail
  refine HSa.out.mono ?_
  rintro e w7 ⟨rfl, m7, rfl⟩
  go_wp2_with fail
  refine (HSb.out m7).mono ?_
  rintro e w7 ⟨rfl, m8, rfl⟩
  have HB48 : Held (Below w4.heap.size w4 ((w6.drewN m7).drewN m8)) := ⟨below_drwN (below_drwN HB46.out _) _⟩
  clear HSa HSb HB46
  generalize (w6.drewN m7).drewN m8 = w8 at *
  go_wp2_with fail
  refine (Ord.works_any w8).mono ?_
  rintro e wa ⟨rfl, hb9⟩
  have HBa : Held (Below w4.heap.size w4 wa) := ⟨HB48.out.trans (hb9.mono HB48.out.size)⟩
  have HB3a : Held (Below w3.heap.size w3 wa) := ⟨HB34.out.trans (HBa.out.mono HB34.out.size)⟩
  have HB2a : Held (Below w2.heap.size w2 wa) := ⟨HB24.out.trans (HBa.out.mono HB24.out.size)⟩
  have HBla : Held (Below wl.heap.size wl wa) := ⟨HBl4.out.trans (HBa.out.mono HBl4.out.size)⟩
  clear hb9 HB48
  have HAp := Held.mk (apart_two wl w3 wa HB23.out.size (.slice A3 G.length c3) (.slice A4 G.length c4) G ((Keep.of_below HB3a.out (fun _ => False)).own HO3.out (fun _ _ h => h)) (fun k hk => own_lt HO3.out k hk) ((Keep.of_below HBa.out (fun _ => False)).own HO4.out (fun _ _ h => h)) HGl.out HBla.out.size)
  go_wp2_with fail
  refine HAp.out.mono ?_
  rintro e wb ⟨rfl, hkb⟩
  have HT : Held (∀ k, ((Value.slice A3 G.length c3).ownBlock = some k ∨ (Value.slice A4 G.length c4).ownBlock = some k) → wl.heap.size ≤ k) := ⟨fun k h => by
    rcases h with h | h
    · exact own_ge HO3.out k h
    · have := own_ge HO4.out k h
      have := HB23.out.size
      omega⟩
  have HBlb : Held (Below wl.heap.size wl wb) := ⟨((Keep.of_below (HBla.out.alloc HBla.out.size (.cells #[.slice A3 G.length c3, .slice A4 G.length c4] 23)) (fun _ => False)).then hkb (fun k hk h => absurd hk (Nat.not_lt.2 (HT.out k h)))).to_below (fun _ _ h => h)⟩
  have HB2b : Held (Below w2.heap.size w2 wb) := ⟨HB2l.out.trans (HBlb.out.mono HB2l.out.size)⟩
  have HBb : Held (Below w.heap.size w wb) := ⟨HB2.out.trans (HB2b.out.mono HB2.out.size)⟩
  have HK2 := Held.mk (Ktw.kept_any A w1.heap.size g m c2 c l wb (HLn.out.keep (Keep.of_below HB2b.out (fun _ => False)) (fun h => h)) (HRw.out _ HBb.out) hb)
  clear hkb HAp
  go_wp2_with fail
  refine HK2.out.mono ?_
  rintro e wc ⟨rfl, hbc⟩
  have HBc : Held (Below w.heap.size w wc) := ⟨HBb.out.trans (hbc.mono HBb.out.size)⟩
  have HK3 := Held.mk (Kit.kept_any _ Ap w2.heap.size gp np cq cp prs wc (HLp.out.keep (Keep.of_below (HBlb.out.trans (hbc.mono HBlb.out.size)) (fun _ => False)) (fun h => h)) (HRp.out _ HBc.out) HBp.out)
  clear hbc HK2
  go_wp2_with fail
  refine HK3.out.mono ?_
  rintro e wd ⟨rfl, md, rfl⟩
  go_wp2_with fail
  go_ret
  exact ⟨rfl, below_drwN HBc.out md⟩
end Grp
end Go.Proofs.YtgmanmbicoofgaaDoor
