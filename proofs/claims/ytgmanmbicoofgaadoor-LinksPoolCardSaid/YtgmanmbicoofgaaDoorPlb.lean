/- The document's Pool: walked. -/
import Derived.Test.YtgmanmbicoofgaaDoorPlp
import Derived.Test.YtgmanmbicoofgaaDoorWLast
import Derived.BigQuiet
namespace Go.Proofs.YtgmanmbicoofgaaDoor
set_option linter.unusedVariables false
set_option linter.unusedSimpArgs false
namespace Klg
open Go.RowKit Mem Go.Maps Go.Proofs.YtgmanmbicoofgaaDoorW.PrintLast
/-- What is known in the loops of the document's Pool. -/
structure StR (w wr : World) (v : Value) (out : List Lg) (N : Nat) : Prop where
  own : OwnG wr w.heap.size v out
  res : Out out N
  below : Below w.heap.size w wr
/-- Where a leg has been found among the first i. -/
def Fnd (out : List Lg) (x : Lg) (i : Nat) (z : Int) : Prop :=
  (z = -1 ∧ ∀ t (ht : t < out.length), t < i → key out[t] ≠ key x) ∨ ∃ t, ∃ ht : t < out.length, t < i ∧ z = (t : Int) ∧ key out[t] = key x
set_option maxHeartbeats 4000000 in
set_option maxRecDepth 100000 in
theorem rpool_any (A : Option Addr) (K c : Nat) (rows : List (List Lg)) (w : World) (hK : K = rows.length) (hr : RdLL w (fun k => k < w.heap.size) A rows) (hg : ∀ r ∈ rows, ∀ p ∈ r, p.Good) (hn : rows.length + rows.flatten.length ≤ 1000000) :
    Calls Tryd.prog 20 #[.slice A K c] w fun e w' => ∃ v, e = .returned (.tuple #[v, .int .i64 (runP [] rows.flatten).1]) ∧ OwnG w' w.heap.size v (runP [] rows.flatten).2 ∧ Below w.heap.size w w' := by
  have HR : Held (∀ W, Below w.heap.size w W → RdLL W (fun k => k < w.heap.size) A rows) := ⟨fun W hB => hr.keep (Keep.of_below hB (fun k => ¬ k < w.heap.size)) (fun k h h' => h' h)⟩
  have HK := Held.mk hK
  have HG := Held.mk hg
  have HN := Held.mk hn
  have hKI : (K : Int) ≤ 1000000 := by omega
  obtain ⟨R, hR⟩ : ∃ R, runP [] rows.flatten = R := ⟨_, rfl⟩
  rw [hR]
  have HS : Held (StR w w (.slice none 0 0) [] 0) := ⟨⟨own_nil _ _ _ _, Out.nil, Below.refl _ _⟩⟩
  have HR0 := Held.mk hR
  clear hr hg hn hK hR
  go_enter Tryd.func20, Tryd.ntmps20
  go_wp2_with fail
  go_loopw [4, 5] (fun v i wr => ∃ (k N : Nat) (out : List Lg), i = .int .i64 k ∧ k ≤ K ∧ Held (StR w wr v out N) ∧ Held (runP out (rows.drop k).flatten = R) ∧ Held (N + (rows.drop k).flatten.length ≤ 1000000)) (fun _ i _ => K - (intOf i).toNat)
  case atStart => exact ⟨0, 0, [], rfl, Nat.zero_le _, HS, by rw [List.drop_zero]; exact HR0, ⟨by have := HN.out; simp at this ⊢; omega⟩⟩
  case round =>
    obtain ⟨k, N, out, rfl, hk, HSt, HRn, HNn⟩ := hrel
    clear HS HR0
    by_cases hlt : k < K
    · have hkr : k < rows.length := by have := HK.out; omega
      have i1 : decide ((k : Int) < (K : Int)) = true := decide_eq_true (by omega)
      have j1 : 0 ≤ (k : Int) ∧ (k : Int) < (K : Int) := ⟨by omega, by omega⟩
      obtain ⟨ad, Ai, ci, rfl, hab, hcell, hci, hri⟩ := (HR.out wr HSt.out.below).at_ hkr
      have hnr : rows[k].length ≤ 1000000 := by
        have := HNn.out
        rw [drop_flat hkr, List.length_append] at this
        omega
      rw [drop_flat hkr] at HRn HNn
      have HGr : Held (∀ p ∈ rows[k], p.Good) := ⟨HG.out _ (List.getElem_mem hkr)⟩
      generalize hrow : rows[k] = row at *
      obtain ⟨n, hnl⟩ : ∃ n, row.length = n := ⟨_, rfl⟩
      have hnI : (n : Int) ≤ 1000000 := by omega
      have HRi : Held (∀ W, Below w.heap.size w W → RdLg W (fun k => k < w.heap.size) Ai row ∧ W.cell? (ad.add k) = some (.slice Ai n ci)) := ⟨fun W hB => by
        obtain ⟨ad', Ai', ci', h1, h2, h3, _, h5⟩ := (HR.out W hB).at_ hkr
        have hs : (ad.add k).block < w.heap.size := hab
        have e1 : W.cell? (ad.add k) = wr.cell? (ad.add k) := by
          rw [World.cell?_of_block (hB.block _ hs), World.cell?_of_block (HSt.out.below.block _ hs)]
        cases h1
        rw [hnl] at hcell
        have e2 := e1.trans hcell
        rw [e1, hcell, hrow] at h3
        simp at h3
        rw [hrow] at h5
        rw [h3.1]
        rw [h3.1] at e2
        exact ⟨h5, e2⟩⟩
      rw [hnl] at hcell hci
      generalize hrest : (rows.drop (k + 1)).flatten = rest at *
      generalize wr = wA at *
      go_wp2_with fail
      go_loopw [4, 6] (fun v i wr => ∃ (k N : Nat) (out : List Lg), i = .int .i64 k ∧ k ≤ n ∧ Held (StR w wr v out N) ∧ Held (runP out (row.drop k ++ rest) = R) ∧ Held (N + (row.drop k ++ rest).length ≤ 1000000)) (fun _ i _ => n - (intOf i).toNat)
      case atStart => exact ⟨0, N, out, rfl, Nat.zero_le _, HSt, by rw [List.drop_zero]; exact HRn, by rw [List.drop_zero]; exact HNn⟩
      case round =>
        obtain ⟨m, N', out', rfl, hm, HSt', HRn', HNn'⟩ := hrel
        clear HSt HRn HNn hcell hri
        generalize wr = wB at *
        obtain ⟨hri', hcell⟩ := HRi.out wB HSt'.out.below
        by_cases hlm : m < n
        · have hmr : m < row.length := by omega
          have i2 : decide ((m : Int) < (n : Int)) = true := decide_eq_true (by omega)
          have j2 : 0 ≤ (m : Int) ∧ (m : Int) < (n : Int) := ⟨by omega, by omega⟩
          obtain ⟨ad2, rfl, hab2, c0, c1, c2, c3, c4⟩ := hri'.at_ hmr
          rw [drop_one hmr] at HRn' HNn'
          have hgx := Held.mk (HGr.out row[m] (List.getElem_mem hmr))
          generalize hx : row[m] = x at *
          obtain ⟨a, b, cc, d, e⟩ := x
          simp only at c0 c1 c2 c3 c4
          rw [List.cons_append] at HRn' HNn'
          by_cases hd : d < 1
          · have i3 : decide (d < 1) = true := decide_eq_true hd
            go_wp2_with fail
            go_ret2
            rw [runP_small hd] at HRn'
            rw [← HRn'.out]
            exact ⟨_, rfl, own_nil _ _ _ _, HSt'.out.below.alloc HSt'.out.below.size _⟩
          · have i3 : decide (d < 1) = false := decide_eq_false hd
            have HBe := Held.mk HSt'.out.below
            have HRs := Held.mk HSt'.out.res
            have hNb : N' + 1 ≤ 1000000 := by have := HNn'.out; simp at this; omega
            obtain ⟨Ao, co, rfl, hco⟩ := own_slice_ HSt'.out.own
            have hfew := HSt'.out.res.few
            obtain ⟨L, hL⟩ : ∃ L, out'.length = L := ⟨_, rfl⟩
            have HOu : Held ((wB.alloc (.cells #[.int .i64 a, .int .i64 b, .int .i64 cc, .int .i64 d, .int .i64 e] 89)).ownsRow w.heap.size 89 5 (.slice Ao L co) L (tcells out')) := ⟨by
              have := HSt'.out.own
              unfold OwnG at this
              rw [hL] at this
              exact this.alloc _⟩
            have HOl : Held (∀ k, (Value.slice Ao L co).ownBlock = some k → k < wB.heap.size) := ⟨fun k hk => by
              have := HSt'.out.own
              unfold OwnG at this
              rw [hL] at this
              exact own_lt this k hk⟩
            have HX := Held.mk (Blk.new wB 89 #[.int .i64 a, .int .i64 b, .int .i64 cc, .int .i64 d, .int .i64 e])
            have HBx : Held (Below w.heap.size w (wB.alloc (.cells #[.int .i64 a, .int .i64 b, .int .i64 cc, .int .i64 d, .int .i64 e] 89))) := ⟨HBe.out.alloc HBe.out.size _⟩
            have HgB : Held (w.heap.size ≤ wB.heap.size) := ⟨HBe.out.size⟩
            rw [hL]
            have hLI : (L : Int) ≤ 1000000 := by omega
            clear HSt' hci hnr hco hri'
            go_wp2_with fail
            generalize wB.alloc (.cells #[.int .i64 a, .int .i64 b, .int .i64 cc, .int .i64 d, .int .i64 e] 89) = wX at *
            generalize wB.heap.size = gx at *
            go_loopw [8, 9] (fun z j wr => ∃ (i : Nat) (y : Int), z = .int .i64 y ∧ j = .int .i64 i ∧ i ≤ L ∧ Held (Fnd out' ⟨a, b, cc, d, e⟩ i y) ∧ Held (Below wX.heap.size wX wr)) (fun _ j _ => L - (intOf j).toNat)
            case atStart => exact ⟨0, -1, rfl, rfl, Nat.zero_le _, ⟨.inl ⟨rfl, fun t _ h => by omega⟩⟩, ⟨Below.refl _ _⟩⟩
            case round =>
              obtain ⟨i, z, rfl, rfl, hi, HF, HBy⟩ := hrel
              generalize wr = wY at *
              by_cases hiL : i < L
              · have i4 : decide ((i : Int) < (L : Int)) = true := decide_eq_true (by omega)
                have j4 : 0 ≤ (i : Int) ∧ (i : Int) < (L : Int) := ⟨by omega, by omega⟩
                have hio : i < out'.length := by omega
                obtain ⟨g, cap, hv, _, hgl⟩ := World.ownsRow.form (h := HOu.out) (by omega)
                injection hv with hv1 _ hv2
                subst hv1
                subst hv2
                have hoy : wY.ownsRow w.heap.size 89 5 (.slice (some ⟨g, 0, none⟩) L co) L (tcells out') := (Keep.of_below HBy.out (fun k => ¬ k < wX.heap.size)).own HOu.out (fun k hk h => h (by simp [Value.ownBlock] at hk; omega))
                have hcl : ∀ t, t < 5 → wY.cell? ⟨g, i * 5 + t, none⟩ = (Lg.cells out'[i])[t]? := fun t ht => by
                  rw [World.ownsRow.cellAt hoy (i * 5 + t) (by omega)]
                  exact Law.flat_get Lg.cells 5 Lg.cells_len out' i t hio ht
                have hX := HX.out.keep (Keep.of_below HBy.out (fun _ => False)) (fun h => h)
                have x3 := hX.cell 3
                have hXa : ∀ o, Blk (wY.alloc o) gx 89 #[.int .i64 a, .int .i64 b, .int .i64 cc, .int .i64 d, .int .i64 e] := fun o => hX.alloc o
                have y0 := fun o => (hXa o).cell 0
                have y1 := fun o => (hXa o).cell 1
                have y2 := fun o => (hXa o).cell 2
                have y3 := fun o => (hXa o).cell 3
                have y4 := fun o => (hXa o).cell 4
                have hky : Held (key out'[i] = key ⟨a, b, cc, d, e⟩ ↔ (out'[i].a = a ∧ out'[i].b = b ∧ out'[i].c = cc ∧ out'[i].e = e)) := ⟨by simp [key]⟩
                obtain ⟨ya, yb, yc, yd, ye, hy⟩ : ∃ ya yb yc yd ye, out'[i] = ⟨ya, yb, yc, yd, ye⟩ := ⟨_, _, _, _, _, rfl⟩
                have HY := Held.mk hy
                rw [hy] at hky
                simp only at hky
                have r0 : wY.cell? ⟨g, i * 5, none⟩ = some (.int .i64 ya) := by have := hcl 0 (by omega); rw [hy] at this; exact this
                have r1 : wY.cell? ⟨g, i * 5 + 1, none⟩ = some (.int .i64 yb) := by have := hcl 1 (by omega); rw [hy] at this; exact this
                have r2 : wY.cell? ⟨g, i * 5 + 2, none⟩ = some (.int .i64 yc) := by have := hcl 2 (by omega); rw [hy] at this; exact this
                have r3 : wY.cell? ⟨g, i * 5 + 3, none⟩ = some (.int .i64 yd) := by have := hcl 3 (by omega); rw [hy] at this; exact this
                have r4 : wY.cell? ⟨g, i * 5 + 4, none⟩ = some (.int .i64 ye) := by have := hcl 4 (by omega); rw [hy] at this; exact this
                clear hcl hoy hX hXa hy
                by_cases hq : ya = a ∧ yb = b ∧ yc = cc ∧ ye = e
                · obtain ⟨rfl, rfl, rfl, rfl⟩ := hq
                  have HFn : Held (Fnd out' ⟨ya, yb, yc, d, ye⟩ (i + 1) i) := ⟨.inr ⟨i, hio, by omega, rfl, by rw [HY.out]; rfl⟩⟩
                  go_wp2_with fail
                  go_roundw
                  case rel => exact ⟨i + 1, i, rfl, by go_num, by omega, HFn, ⟨HBy.out.alloc HBy.out.size _⟩⟩
                  case measure => simp [intOf] <;> omega
                · have hnk : ¬ key out'[i] = key ⟨a, b, cc, d, e⟩ := fun h => hq (by rw [HY.out] at h; exact hky.out.1 h)
                  have HFn : Held (Fnd out' ⟨a, b, cc, d, e⟩ (i + 1) z) := ⟨by
                    rcases HF.out with ⟨h1, h2⟩ | ⟨t, ht, h1, h2, h3⟩
                    · refine .inl ⟨h1, fun t ht hti => ?_⟩
                      rcases Nat.lt_or_ge t i with h | h
                      · exact h2 t ht h
                      · obtain rfl : t = i := by omega
                        exact hnk
                    · exact .inr ⟨t, ht, by omega, h2, h3⟩⟩
                  clear hnk HF
                  go_wp2_with fail
                  all_goals (refine ⟨⟨i + 1, z, rfl, by go_num, by omega, HFn, ⟨HBy.out.alloc HBy.out.size _⟩⟩, ?_⟩; simp [intOf] <;> omega)
              · obtain rfl : i = L := by omega
                have i4 : decide ((i : Int) < (i : Int)) = false := decide_eq_false (by omega)
                have hX := HX.out.keep (Keep.of_below HBy.out (fun _ => False)) (fun h => h)
                have HBw : Held (Below w.heap.size w wY) := ⟨HBx.out.trans (HBy.out.mono HBx.out.size)⟩
                have HOy : Held (wY.ownsRow w.heap.size 89 5 (.slice Ao i co) i (tcells out')) := ⟨(Keep.of_below HBy.out (fun k => ¬ k < wX.heap.size)).own HOu.out (fun k hk h => h (own_lt HOu.out k hk))⟩
                have x0 := hX.cell 0
                have x1 := hX.cell 1
                have x2 := hX.cell 2
                have x3 := hX.cell 3
                have x4 := hX.cell 4
                rcases HF.out with ⟨rfl, hno⟩ | ⟨t, ht, _, rfl, hkt⟩
                · have hf : find out' ⟨a, b, cc, d, e⟩ = none := find_none fun t ht => hno t ht (by omega)
                  have HRx : Held (RdV (wY.alloc (.cells #[.int .i64 a, .int .i64 b, .int .i64 cc, .int .i64 d, .int .i64 e] 89)) (fun _ => True) 5 (some ⟨wY.heap.size, 0, none⟩) 1 [.int .i64 a, .int .i64 b, .int .i64 cc, .int .i64 d, .int .i64 e]) := ⟨⟨rfl, fun _ => ⟨_, rfl, trivial, World.news_of_block (cs := #[.int .i64 a, .int .i64 b, .int .i64 cc, .int .i64 d, .int .i64 e]) (t := 89) (fr := (0, 0)) (heap_alloc_new _ _)⟩⟩⟩
                  have HL3 : Held ((i + 1 + (i + 1) / 4 + 192) * 40 ≤ 281474976710656) := ⟨by omega⟩
                  have HOx : Held ((wY.alloc (.cells #[.int .i64 a, .int .i64 b, .int .i64 cc, .int .i64 d, .int .i64 e] 89)).ownsRow w.heap.size 89 5 (.slice Ao i co) i (tcells out')) := ⟨HOy.out.alloc _⟩
                  have HXs : Held (w.heap.size ≤ (wY.alloc (.cells #[.int .i64 a, .int .i64 b, .int .i64 cc, .int .i64 d, .int .i64 e] 89)).heap.size) := ⟨by have := HBw.out.size; simp; omega⟩
                  go_wp2_with ((at_builtin; go_loud (refine appS _ w.heap.size rfl (.tmp 55) (.tmp 57) 43 89 (.agg #[.int .i64 0, .int .i64 0, .int .i64 0, .int .i64 0, .int .i64 0]) 5 40 rfl under_legs info_leg rfl (by decide) (by decide) (.slice Ao i co) i (tcells out') rfl HOx.out (fun _ => True) (some ⟨wY.heap.size, 0, none⟩) 1 1 [.int .i64 a, .int .i64 b, .int .i64 cc, .int .i64 d, .int .i64 e] rfl HRx.out (five_one _ _ _ _ _) HL3.out HXs.out ?_)); (intro v2 w3 ho3 hg3 hat3))
                  have HStn : Held (StR w w3 v2 (out' ++ [⟨a, b, cc, d, e⟩]) (N' + 1)) := ⟨by
                    refine ⟨?_, HRs.out.snoc hf ⟨by simp only; omega, hgx.out.d.2⟩, ?_⟩
                    · unfold OwnG tcells
                      rw [List.length_append, hL, List.flatMap_append]
                      exact ho3
                    · exact (((Keep.of_below HBw.out (fun _ => False)).alloc _).grown hg3 (fun k hk h => by have := own_ge HOy.out k h; omega)).to_below (fun _ _ h => h)⟩
                  have HRun : Held (runP (out' ++ [⟨a, b, cc, d, e⟩]) (row.drop (m + 1) ++ rest) = R) := ⟨by rw [← runP_new (by simp only; omega) hf]; exact HRn'.out⟩
                  clear ho3 hg3 hat3
                  refine ⟨⟨m + 1, N' + 1, out' ++ [⟨a, b, cc, d, e⟩], by go_num, by omega, HStn, HRun, ⟨by have := HNn'.out; simp only [List.length_cons] at this; omega⟩⟩, ?_⟩
                  simp [intOf] <;> omega
                · have hf : find out' ⟨a, b, cc, d, e⟩ = some t := find_some HRs.out.uniq ht hkt
                  have htL : t < i := by omega
                  obtain ⟨g, cap, hv, _, hgl⟩ := World.ownsRow.form (h := HOy.out) (by omega)
                  injection hv with hv1 _ hv2
                  subst hv1
                  subst hv2
                  have htI : 0 ≤ (t : Int) ∧ (t : Int) < (i : Int) := ⟨by omega, by omega⟩
                  have h0t : decide ((t : Int) < 0) = false := decide_eq_false (by omega)
                  obtain ⟨yd, hyd⟩ : ∃ q, out'[t].d = q := ⟨_, rfl⟩
                  have hyq := HRs.out.qty out'[t] (List.getElem_mem ht)
                  rw [hyd] at hyq
                  have r3 : wY.cell? ⟨g, t * 5 + 3, none⟩ = some (.int .i64 yd) := by
                    rw [World.ownsRow.cellAt HOy.out (t * 5 + 3) (by omega)]
                    unfold tcells
                    rw [Law.flat_get Lg.cells 5 Lg.cells_len out' t 3 ht (by omega), ← hyd]
                    rfl
                  have rf : wY.frozen? ⟨g, t * 5 + 3, none⟩ = false := World.ownsRow.frozenAt HOy.out _
                  have hdu := hgx.out.d.2
                  simp only at hdu
                  by_cases ho : 9223372036854775807 - yd < d
                  · have i6 : decide (9223372036854775807 - d < yd) = true := decide_eq_true (by omega)
                    go_wp2_with fail
                    go_quiet (fail)
                    go_wp2_with fail
                    go_ret2
                    rw [runP_over (by simp only; omega) hf ht (by simp only [hyd]; exact ho)] at HRn'
                    rw [← HRn'.out]
                    exact ⟨_, rfl, own_nil _ _ _ _, below_drewN_ HBw.out _⟩
                  · have i6 : decide (9223372036854775807 - d < yd) = false := decide_eq_false (by omega)
                    go_wp2_with fail
                    go_quiet (fail)
                    go_wp2_with fail
                    generalize hz : wY.drewN _ = wZ at *
                    have HBz : Held (Below w.heap.size w wZ) := ⟨hz ▸ below_drewN_ HBw.out _⟩
                    have r3z : wZ.cell? ⟨g, t * 5 + 3, none⟩ = some (.int .i64 yd) := by rw [← hz]; exact r3
                    have rfz : wZ.frozen? ⟨g, t * 5 + 3, none⟩ = false := by rw [← hz]; exact rf
                    have x3z : wZ.cell? ⟨gx, 3, none⟩ = some (.int .i64 d) := by rw [← hz]; exact x3
                    have HOz : Held (wZ.ownsRow w.heap.size 89 5 (.slice (some ⟨g, 0, none⟩) i co) i (tcells out')) := ⟨hz ▸ HOy.out⟩
                    have hw64 : wrap64 (yd + d) = yd + d := IntWalk.wrap64_in _ ⟨by omega, by omega⟩
                    have hgb : w.heap.size ≤ g := own_ge HOy.out g rfl
                    have HStn : Held (StR w (wZ.setCell ⟨g, t * 5 + 3, none⟩ (.int .i64 (yd + d))).drew (.slice (some ⟨g, 0, none⟩) i co) (addq out' t d) (N' + 1)) := ⟨by
                      refine ⟨?_, HRs.out.add ht (by omega) (by rw [hyd]; omega), ?_⟩
                      · unfold OwnG tcells
                        rw [addq_length, hL, addq_cells out' t d ht, hyd]
                        exact (HOz.out.stored (t * 5 + 3) _).1
                      · exact (((Keep.of_below HBz.out (fun k => k = g)).setCell (p := ⟨g, t * 5 + 3, none⟩) (fun _ => rfl) _).drew).to_below (fun k hk h => by omega)⟩
                    have HRun : Held (runP (addq out' t d) (row.drop (m + 1) ++ rest) = R) := ⟨by rw [← HRn'.out, runP_add (by simp only; omega) hf ht (by simp only [hyd]; omega)]⟩
                    clear x0 x1 x2 x3 x4 r3 rf hX c0 c1 c2 c3 c4 hcell hz i6 hd hdu hyq
                    refine start_ (n := 13) (S := fun w' => w'.cell? ⟨g, t * 5 + 3, none⟩ = some (.int .i64 yd) ∧ w'.cell? ⟨gx, 3, none⟩ = some (.int .i64 d)) (ds := [12]) #[false, false, false, false, false, false, false, false, false, false, false, false, false] (by kernel_rfl) rfl rfl ⟨r3z, x3z⟩ (fun hHeld => ?_)
                    refine pure_ (i := 0) (N := some 68) (v := ?_) (a' := ?_) #[true, false, false, false, false, false, false, false, false, false, false, false, false] rfl rfl (by kernel_rfl) (fun _ _ _ h => h) (Or.inl ⟨by rfl, ?_⟩) ?_ ?_
                    rotate_left
                    · intro w'
                      go_simp
                      with_reducible rfl
                    rotate_left
                    · simp only [Act.put, List.setIfInBounds_toArray, List.set_cons_zero, List.set_cons_succ, i64_w, i32_w]
                      rfl
                    refine pure_ (i := 1) (N := some 69) (v := ?_) (a' := ?_) #[true, true, false, false, false, false, false, false, false, false, false, false, false] rfl rfl (by kernel_rfl) (fun _ _ _ h => h) (Or.inl ⟨by rfl, ?_⟩) ?_ ?_
                    rotate_left
                    · intro w'
                      go_simp
                      with_reducible rfl
                    rotate_left
                    · simp only [Act.put, List.setIfInBounds_toArray, List.set_cons_zero, List.set_cons_succ, i64_w, i32_w]
                      rfl
                    refine pure_ (i := 2) (N := some 70) (v := ?_) (a' := ?_) #[true, true, true, false, false, false, false, false, false, false, false, false, false] rfl rfl (by kernel_rfl) (fun _ _ _ h => h) (Or.inl ⟨by rfl, ?_⟩) ?_ ?_
                    rotate_left
                    · intro w'
                      go_simp
                      with_reducible rfl
                    rotate_left
                    · simp only [Act.put, List.setIfInBounds_toArray, List.set_cons_zero, List.set_cons_succ, i64_w, i32_w]
                      rfl
                    refine pure_ (i := 3) (N := some 71) (v := ?_) (a' := ?_) #[true, true, true, true, false, false, false, false, false, false, false, false, false] rfl rfl (by kernel_rfl) (fun _ _ _ h => h) (Or.inl ⟨by rfl, ?_⟩) ?_ ?_
                    rotate_left
                    · intro w'
                      go_simp
                      with_reducible rfl
                    rotate_left
                    · simp only [Act.put, List.setIfInBounds_toArray, List.set_cons_zero, List.set_cons_succ, i64_w, i32_w]
                      rfl
                    refine pure_ (i := 4) (N := some 72) (v := ?_) (a' := ?_) #[true, true, true, true, true, false, false, false, false, false, false, false, false] rfl rfl (by kernel_rfl) (fun _ _ _ h => h) (Or.inl ⟨by rfl, ?_⟩) ?_ ?_
                    rotate_left
                    · intro w'
                      go_simp
                      with_reducible rfl
                    rotate_left
                    · simp only [Act.put, List.setIfInBounds_toArray, List.set_cons_zero, List.set_cons_succ, i64_w, i32_w]
                      rfl
                    refine pure_ (i := 5) (N := some 73) (v := ?_) (a' := ?_) #[true, true, true, true, true, true, false, false, false, false, false, false, false] rfl rfl (by kernel_rfl) (fun _ _ _ h => h) (Or.inl ⟨by rfl, ?_⟩) ?_ ?_
                    rotate_left
                    · intro w'
                      go_simp
                      with_reducible rfl
                    rotate_left
                    · simp only [Act.put, List.setIfInBounds_toArray, List.set_cons_zero, List.set_cons_succ, i64_w, i32_w]
                      rfl
                    refine pure_ (i := 7) (N := some 75) (v := ?_) (a' := ?_) #[true, true, true, true, true, true, false, true, false, false, false, false, false] rfl rfl (by kernel_rfl) (fun _ _ _ h => h) (Or.inl ⟨by rfl, ?_⟩) ?_ ?_
                    rotate_left
                    · intro w'
                      go_simp
                      with_reducible rfl
                    rotate_left
                    · simp only [Act.put, List.setIfInBounds_toArray, List.set_cons_zero, List.set_cons_succ, i64_w, i32_w]
                      rfl
                    refine take_ (i := 6) (N := some 74) (v := ?_) (a' := ?_) #[true, true, true, true, true, true, true, true, false, false, false, false, false] rfl rfl (by kernel_rfl) (fun _ _ _ h => h) (Or.inl ⟨by rfl, ?_⟩) hHeld ?_ ?_
                    rotate_left
                    · rintro w' ⟨s0, s1⟩
                      go_simp
                      with_reducible rfl
                    rotate_left
                    · simp only [Act.put, List.setIfInBounds_toArray, List.set_cons_zero, List.set_cons_succ, i64_w, i32_w]
                      rfl
                    refine take_ (i := 8) (N := some 76) (v := ?_) (a' := ?_) #[true, true, true, true, true, true, true, true, true, false, false, false, false] rfl rfl (by kernel_rfl) (fun _ _ _ h => h) (Or.inl ⟨by rfl, ?_⟩) hHeld ?_ ?_
                    rotate_left
                    · rintro w' ⟨s0, s1⟩
                      go_simp
                      with_reducible rfl
                    rotate_left
                    · simp only [Act.put, List.setIfInBounds_toArray, List.set_cons_zero, List.set_cons_succ, i64_w, i32_w]
                      rfl
                    refine pure_ (i := 9) (N := some 77) (v := ?_) (a' := ?_) #[true, true, true, true, true, true, true, true, true, true, false, false, false] rfl rfl (by kernel_rfl) (fun _ _ _ h => h) (Or.inl ⟨by rfl, ?_⟩) ?_ ?_
                    rotate_left
                    · intro w'
                      go_simp
                      with_reducible rfl
                    rotate_left
                    · simp only [Act.put, List.setIfInBounds_toArray, List.set_cons_zero, List.set_cons_succ, i64_w, i32_w]
                      rfl
                    refine pure_ (i := 10) (N := some 78) (v := ?_) (a' := ?_) #[true, true, true, true, true, true, true, true, true, true, true, false, false] rfl rfl (by kernel_rfl) (fun _ _ _ h => h) (Or.inl ⟨by rfl, ?_⟩) ?_ ?_
                    rotate_left
                    · intro w'
                      go_simp
                      with_reducible rfl
                    rotate_left
                    · simp only [Act.put, List.setIfInBounds_toArray, List.set_cons_zero, List.set_cons_succ, i64_w, i32_w]
                      rfl
                    refine pure_ (i := 11) (N := some 79) (v := ?_) (a' := ?_) #[true, true, true, true, true, true, true, true, true, true, true, true, false] rfl rfl (by kernel_rfl) (fun _ _ _ h => h) (Or.inl ⟨by rfl, ?_⟩) ?_ ?_
                    rotate_left
                    · intro w'
                      go_simp
                      with_reducible rfl
                    rotate_left
                    · simp only [Act.put, List.setIfInBounds_toArray, List.set_cons_zero, List.set_cons_succ, i64_w, i32_w]
                      rfl
                    refine last_ (i := 12) (N := none) #[true, true, true, true, true, true, true, true, true, true, true, true, true] rfl rfl (by kernel_rfl) (by decide) (fun K hK => ?_)
                    refine skip_ (w1 := ?_) (by rfl) rfl ?_ ?_
                    rotate_left
                    · go_simp
                      rfl
                    refine hK.out _ _ ?_
                    clear hK K
                    refine done_ (by kernel_rfl) ?_
                    go_wp2_with fail
                    refine ⟨⟨m + 1, N' + 1, addq out' t d, by go_num, by omega, HStn, HRun, ⟨by have := HNn'.out; simp only [List.length_cons] at this; omega⟩⟩, ?_⟩
                    simp [intOf] <;> omega
        · obtain rfl : m = n := by omega
          have i2 : decide ((m : Int) < (m : Int)) = false := decide_eq_false (by omega)
          go_wp2_with fail
          go_roundw
          case rel => exact ⟨k + 1, N', out', by go_num, by omega, HSt', by rw [List.drop_of_length_le (by omega), List.nil_append, ← hrest] at HRn'; exact HRn', by rw [List.drop_of_length_le (by omega), List.nil_append, ← hrest] at HNn'; exact HNn'⟩
          case measure => simp [intOf] <;> omega
    · obtain rfl : k = K := by omega
      have i1 : decide ((k : Int) < (k : Int)) = false := decide_eq_false (by omega)
      rw [List.drop_of_length_le (by have := HK.out; omega), List.flatten_nil] at HRn
      obtain ⟨L, hL⟩ : ∃ L, out.length = L := ⟨_, rfl⟩
      obtain ⟨Ao, co, rfl, hco⟩ := own_slice_ HSt.out.own
      rw [hL]
      by_cases h0 : L = 0
      · subst h0
        go_wp2_with fail
        go_ret2
        rw [← HRn.out, runP, if_pos hL]
        exact ⟨_, rfl, own_nil _ _ _ _, HSt.out.below⟩
      · have i5 : ((L : Int) == 0) = false := by simp; omega
        by_cases h4 : 4 < L
        · have i6 : decide ((4 : Int) < (L : Int)) = true := decide_eq_true (by omega)
          go_wp2_with fail
          go_ret2
          rw [← HRn.out, runP, if_neg (by omega), if_pos (by omega)]
          exact ⟨_, rfl, own_nil _ _ _ _, HSt.out.below⟩
        · have i6 : decide ((4 : Int) < (L : Int)) = false := decide_eq_false (by omega)
          go_wp2_with fail
          go_ret2
          rw [← HRn.out, runP, if_neg (by omega), if_neg (by omega)]
          exact ⟨_, rfl, by rw [← hL]; exact HSt.out.own, HSt.out.below⟩
end Klg
end Go.Proofs.YtgmanmbicoofgaaDoor
