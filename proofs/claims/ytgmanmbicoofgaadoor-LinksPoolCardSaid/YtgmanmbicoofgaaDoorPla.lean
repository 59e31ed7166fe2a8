/- links.Pool: walked. -/
import Derived.Test.YtgmanmbicoofgaaDoorPlp
import Derived.Maps.OwnOps
namespace Go.Proofs.YtgmanmbicoofgaaDoor
set_option linter.unusedVariables false
set_option linter.unusedSimpArgs false
namespace Klg
open Go.RowKit Mem Go.Maps
def errP (k : Int) : Value := if k = 0 then .nilIface else .iface 87 (.agg #[.int .i64 k])
theorem own_map_ne {H : Type} {w : World} {P : Program} {k : TypeId} {R : Value → Option (DataW H × List MemPlace)} {b n : Nat} {D : DataW H} (h : w.ownsMap P k R b n D) {base e size m : Nat} {v : Value} {xs : List Value} (ho : w.ownsRow base e size v m xs) : v.ownBlock ≠ some b := by
  obtain ⟨es, clock, hb, _⟩ := h
  rcases ho.2 with ⟨rfl, _⟩ | ⟨g, cap, cur, rfl, _, hh, _⟩
  · simp [Value.ownBlock]
  · intro e
    simp [Value.ownBlock] at e
    subst e
    rw [hb] at hh
    cases hh
theorem wpList_lookup_known {H : Type} {P : Program} (w : World) {ops : Array Oper} {rest : List Oper} {o : Oper} {a : Act} {Q : Exit → Act → World → Prop} (hg : o.guard = none) (m x : Operand) (t : TypeId) (hop : o.op = Op.lookup t m x true)
    (k e : TypeId) (q : IntKind) (K : Keyed P k) (ht : P.underlying t = some (.map k e)) (he : P.underlying e = some (.int q)) (hz : (zeroValue e).run P w = .ok (.int q 0) w) (b n : Nat) (D : DataW H)
    (hm : a.eval m = .map (some b)) (hown : w.ownsMap P k (plainElem P e) b n D) (key : Value) (kl : Lit) (hx : a.eval x = key) (hkey : keyOf P k key = some kl) (j : Int) (hat : D.atKey kl (.lit (.int q 0)) = .lit (.int q j))
    (hK : wpList P ops Q rest (a.put o.dst (.tuple #[.int q j, .bool (Maps.has D kl)])) w) : wpList P ops Q (o :: rest) a w :=
  wpList_lookup_own_ok_int w hg m x t hop k e q K ht he hz b n D hm hown key kl hx hkey fun c h _ => by
    rw [hat] at h
    injection h with h
    injection h with _ h
    subst h
    exact hK
/-- What is known in the loops of Pool. -/
structure St (w wr : World) (v : Value) (out : List Lg) (N : Nat) : Prop where
  own : OwnG wr w.heap.size v out
  res : Out out N
  map : ∃ D : DataW Unit, wr.ownsMap Tryd.prog 89 (plainElem Tryd.prog 3) w.heap.size N D ∧ InvM D out
  below : Below w.heap.size w wr
set_option maxHeartbeats 4000000 in
set_option maxRecDepth 100000 in
theorem pool_any (A : Option Addr) (K c : Nat) (rows : List (List Lg)) (w : World) (hK : K = rows.length) (hr : RdLL w (fun k => k < w.heap.size) A rows) (hg : ∀ r ∈ rows, ∀ p ∈ r, p.Good) (hn : rows.length + rows.flatten.length ≤ 1000000) :
    Calls Tryd.prog 22 #[.slice A K c] w fun e w' => ∃ v, e = .returned (.tuple #[v, errP (runP [] rows.flatten).1]) ∧ OwnG w' w.heap.size v (runP [] rows.flatten).2 ∧ Below w.heap.size w w' := by
  have HR : Held (∀ W, Below w.heap.size w W → RdLL W (fun k => k < w.heap.size) A rows) := ⟨fun W hB => hr.keep (Keep.of_below hB (fun k => ¬ k < w.heap.size)) (fun k h h' => h' h)⟩
  have HK := Held.mk hK
  have HG := Held.mk hg
  have HN := Held.mk hn
  have hKI : (K : Int) ≤ 1000000 := by omega
  obtain ⟨R, hR⟩ : ∃ R, runP [] rows.flatten = R := ⟨_, rfl⟩
  rw [hR]
  have HS : Held (St w (w.alloc (.map #[] 0)) (.slice none 0 0) [] 0) := ⟨⟨own_nil _ _ _ _, Out.nil, ⟨_, World.ownsMap_made _ _ _ _, InvM.nil⟩, (Below.refl _ _).alloc (Nat.le_refl _) _⟩⟩
  have HR0 := Held.mk hR
  have hmm := @run_makeMap Tryd.prog
  clear hr hg hn hK hR
  go_enter Tryd.func22, Tryd.ntmps22
  go_wp2_with fail
  go_loopw [4, 15] (fun v i wr => ∃ (k N : Nat) (out : List Lg), i = .int .i64 k ∧ k ≤ K ∧ Held (St w wr v out N) ∧ Held (runP out (rows.drop k).flatten = R) ∧ Held (N + (rows.drop k).flatten.length ≤ 1000000)) (fun _ i _ => K - (intOf i).toNat)
  case atStart => exact ⟨0, 0, [], rfl, Nat.zero_le _, HS, by rw [List.drop_zero]; exact HR0, ⟨by have := HN.out; simp at this ⊢; omega⟩⟩
  case round =>
    obtain ⟨k, N, out, rfl, hk, HSt, HRn, HNn⟩ := hrel
    clear HS HR0
    by_cases hlt : k < K
    · have hkr : k < rows.length := by have := HK.out; omega
      have i1 : decide ((k : Int) < (K : Int)) = true := decide_eq_true (by omega)
      have j1 : 0 ≤ (k : Int) ∧ (k : Int) < (K : Int) := ⟨by omega, by omega⟩
      obtain ⟨ad, Ai, ci, rfl, hab, hcell, hci, hri⟩ := (HR.out wr HSt.out.below).at_ hkr
      have hnr : rows[k].length ≤ 1000000 := by
        have := HNn.out
        rw [drop_flat hkr, List.length_append] at this
        omega
      rw [drop_flat hkr] at HRn HNn
      have HGr : Held (∀ p ∈ rows[k], p.Good) := ⟨HG.out _ (List.getElem_mem hkr)⟩
      generalize hrow : rows[k] = row at *
      obtain ⟨n, hnl⟩ : ∃ n, row.length = n := ⟨_, rfl⟩
      have hnI : (n : Int) ≤ 1000000 := by omega
      have HRi : Held (∀ W, Below w.heap.size w W → RdLg W (fun k => k < w.heap.size) Ai row) := ⟨fun W hB => by
        obtain ⟨ad', Ai', ci', h1, h2, h3, _, h5⟩ := (HR.out W hB).at_ hkr
        have hs : (ad.add k).block < w.heap.size := hab
        have e1 : W.cell? (ad.add k) = wr.cell? (ad.add k) := by
          rw [World.cell?_of_block (hB.block _ hs), World.cell?_of_block (HSt.out.below.block _ hs)]
        cases h1
        rw [e1, hcell, hrow] at h3
        simp at h3
        rw [h3.1]
        rw [hrow] at h5
        exact h5⟩
      rw [hnl] at hcell hci
      generalize hrest : (rows.drop (k + 1)).flatten = rest at *
      generalize wr = wA at *
      go_wp2_with fail
      go_loopw [4, 23] (fun v i wr => ∃ (k N : Nat) (out : List Lg), i = .int .i64 k ∧ k ≤ n ∧ Held (St w wr v out N) ∧ Held (runP out (row.drop k ++ rest) = R) ∧ Held (N + (row.drop k ++ rest).length ≤ 1000000)) (fun _ i _ => n - (intOf i).toNat)
      case atStart => exact ⟨0, N, out, rfl, Nat.zero_le _, HSt, by rw [List.drop_zero]; exact HRn, by rw [List.drop_zero]; exact HNn⟩
      case round =>
        obtain ⟨m, N', out', rfl, hm, HSt', HRn', HNn'⟩ := hrel
        clear HSt HRn HNn
        generalize wr = wB at *
        by_cases hlm : m < n
        · have hmr : m < row.length := by omega
          have i2 : decide ((m : Int) < (n : Int)) = true := decide_eq_true (by omega)
          have j2 : 0 ≤ (m : Int) ∧ (m : Int) < (n : Int) := ⟨by omega, by omega⟩
          obtain ⟨ad2, rfl, hab2, c0, c1, c2, c3, c4⟩ := (HRi.out wB HSt'.out.below).at_ hmr
          rw [drop_one hmr] at HRn' HNn'
          have hgx := Held.mk (HGr.out row[m] (List.getElem_mem hmr))
          generalize hx : row[m] = x at *
          obtain ⟨a, b, cc, d, e⟩ := x
          simp only at c0 c1 c2 c3 c4
          by_cases hd : d < 1
          · have i3 : decide (d < 1) = true := decide_eq_true hd
            go_wp2_with fail
            go_ret2
            rw [List.cons_append, runP_small hd] at HRn'
            rw [← HRn'.out]
            exact ⟨_, rfl, own_nil _ _ _ _, HSt'.out.below.alloc HSt'.out.below.size _⟩
          · have i3 : decide (d < 1) = false := decide_eq_false hd
            obtain ⟨D, hmD, hiD⟩ := HSt'.out.map
            have HMap : Held ((wB.alloc (.cells #[.int .i64 a, .int .i64 b, .int .i64 cc, .int .i64 0, .int .i64 e] 89)).ownsMap Tryd.prog 89 (plainElem Tryd.prog 3) w.heap.size N' D) := ⟨hmD.alloc _⟩
            have HMapB := Held.mk hmD
            have HInv := Held.mk hiD
            have HLt : Held (w.heap.size < wB.heap.size) := ⟨hmD.lt⟩
            have HNe : Held (u4.ownBlock ≠ some w.heap.size) := ⟨own_map_ne hmD HSt'.out.own⟩
            obtain ⟨kx, hkx⟩ : ∃ l, kl (key ⟨a, b, cc, d, e⟩) = l := ⟨_, rfl⟩
            have HKx : Held (keyOf Tryd.prog 89 (.agg #[.int .i64 a, .int .i64 b, .int .i64 cc, .int .i64 0, .int .i64 e]) = some kx) := ⟨by rw [← hkx]; exact kl_is hgx.out.key⟩
            have HBe := Held.mk HSt'.out.below
            have HOu := Held.mk HSt'.out.own
            have HRs := Held.mk HSt'.out.res
            have hNb : N' + 1 ≤ 1000000 := by have := HNn'.out; simp at this; omega
            rw [List.cons_append] at HRn' HNn'
            obtain ⟨Ao, co, rfl, hco⟩ := own_slice_ HSt'.out.own
            have hfew := HSt'.out.res.few
            obtain ⟨L, hL⟩ : ∃ L, out'.length = L := ⟨_, rfl⟩
            clear hmD hiD HSt' hci hnr
            cases hf : find out' ⟨a, b, cc, d, e⟩ with
            | none =>
              have hhas : has D kx = false := hkx ▸ HInv.out.no _ hgx.out hf
              have HWf : Held ((Lit.int .i64 (L : Int)).wf = true) := ⟨by
                simp [Lit.wf, IntKind.min, IntKind.max, IntKind.signed, IntKind.bits]
                omega⟩
              have HNl : Held (N' < maxLen) := ⟨by unfold maxLen; omega⟩
              have HRun : Held (runP (out' ++ [⟨a, b, cc, d, e⟩]) (row.drop (m + 1) ++ rest) = R) := ⟨by rw [← runP_new hd hf]; exact HRn'.out⟩
              have HBlk : Held (∀ W, (wB.alloc (.cells #[.int .i64 a, .int .i64 b, .int .i64 cc, .int .i64 0, .int .i64 e] 89)).grownBy W (some w.heap.size) → Blk W wB.heap.size 89 #[.int .i64 a, .int .i64 b, .int .i64 cc, .int .i64 0, .int .i64 e]) := ⟨fun W hg => (Blk.new wB _ _).keep (Keep.of_grown hg) (fun e => by injection e with e; have := HLt.out; omega)⟩
              have HOx : Held (∀ W, (wB.alloc (.cells #[.int .i64 a, .int .i64 b, .int .i64 cc, .int .i64 0, .int .i64 e] 89)).grownBy W (some w.heap.size) → ((W.setCell ⟨wB.heap.size, 3, none⟩ (.int .i64 d)).alloc (.cells #[.int .i64 a, .int .i64 b, .int .i64 cc, .int .i64 d, .int .i64 e] 89)).ownsRow w.heap.size 89 5 (.slice Ao L co) L (tcells out')) := ⟨fun W hg => by
                have h0 : (wB.alloc (.cells #[.int .i64 a, .int .i64 b, .int .i64 cc, .int .i64 0, .int .i64 e] 89)).ownsRow w.heap.size 89 5 (.slice Ao L co) L (tcells out') := by
                  have := HOu.out
                  unfold OwnG at this
                  rw [hL] at this
                  exact this.alloc _
                have h1 : Keep (fun k => k = w.heap.size ∨ k = wB.heap.size) (wB.alloc (.cells #[.int .i64 a, .int .i64 b, .int .i64 cc, .int .i64 0, .int .i64 e] 89)) (W.setCell ⟨wB.heap.size, 3, none⟩ (.int .i64 d)) :=
                  ((Keep.of_grown hg).mono (fun k _ h => .inl (by injection h with h; exact h.symm))).setCell (fun _ => .inr rfl) _
                refine (h1.own h0 (fun k hk h => ?_)).alloc _
                rcases h with rfl | rfl
                · exact HNe.out (by rw [hL]; exact hk)
                · exact absurd (own_lt HOu.out _ (by rw [← hL] at hk; exact hk)) (by omega)⟩
              have HRx : Held (∀ W : World, RdV ((W.setCell ⟨wB.heap.size, 3, none⟩ (.int .i64 d)).alloc (.cells #[.int .i64 a, .int .i64 b, .int .i64 cc, .int .i64 d, .int .i64 e] 89)) (fun _ => True) 5 (some ⟨W.heap.size, 0, none⟩) 1 [.int .i64 a, .int .i64 b, .int .i64 cc, .int .i64 d, .int .i64 e]) := ⟨fun W => ⟨rfl, fun _ => ⟨_, rfl, trivial, by
                have := World.news_of_block (cs := #[.int .i64 a, .int .i64 b, .int .i64 cc, .int .i64 d, .int .i64 e]) (t := 89) (fr := (0, 0)) (heap_alloc_new (W.setCell ⟨wB.heap.size, 3, none⟩ (.int .i64 d)) _)
                rw [World.size_setCell] at this
                exact this⟩⟩⟩
              have HL3 : Held ((L + 1 + (L + 1) / 4 + 192) * 40 ≤ 281474976710656) := ⟨by omega⟩
              have HX : Held (∀ W, (wB.alloc (.cells #[.int .i64 a, .int .i64 b, .int .i64 cc, .int .i64 0, .int .i64 e] 89)).grownBy W (some w.heap.size) → w.heap.size ≤ ((W.setCell ⟨wB.heap.size, 3, none⟩ (.int .i64 d)).alloc (.cells #[.int .i64 a, .int .i64 b, .int .i64 cc, .int .i64 d, .int .i64 e] 89)).heap.size) := ⟨fun W hg => by have h1 := hg.size; have h2 := HLt.out; simp at h1 ⊢; omega⟩
              rw [hL]
              have hLI : (L : Int) ≤ 1000000 := by omega
              go_wp2_with (first
                | (at_lookup; refine wpList_lookup_own_ok_int _ rfl _ _ 90 rfl 89 3 .i64 law Tryd.underlying90 Tryd.underlying3 (zeroE _) w.heap.size N' D rfl HMap.out _ kx rfl HKx.out ?_; intro ca hat hwc)
                | (at_mapUpdate; refine wpList_mapUpdate_own _ rfl _ _ _ 90 rfl 89 3 law Tryd.underlying90 (plainElem Tryd.prog 3) w.heap.size N' D rfl HMap.out HNl.out _ _ kx rfl rfl HKx.out (.lit (.int .i64 L)) [] (plainElem_int Tryd.underlying3 HWf.out) ?_; intro w2 hown2 hgrow2; have q0 := (HBlk.out w2 hgrow2).cell 0; have q1 := (HBlk.out w2 hgrow2).cell 1; have q2 := (HBlk.out w2 hgrow2).cell 2; have q3 := (HBlk.out w2 hgrow2).cell 3; have q4 := (HBlk.out w2 hgrow2).cell 4; have qf := (HBlk.out w2 hgrow2).frozen 3)
                | ((at_builtin; go_loud (refine appS _ w.heap.size rfl (.tmp 48) (.tmp 50) 43 89 (.agg #[.int .i64 0, .int .i64 0, .int .i64 0, .int .i64 0, .int .i64 0]) 5 40 rfl under_legs info_leg rfl (by decide) (by decide) (.slice Ao L co) L (tcells out') rfl (HOx.out w2 hgrow2) (fun _ => True) (some ⟨w2.heap.size, 0, none⟩) 1 1 [.int .i64 a, .int .i64 b, .int .i64 cc, .int .i64 d, .int .i64 e] rfl (HRx.out w2) (five_one _ _ _ _ _) HL3.out (HX.out w2 hgrow2) ?_)); (intro v2 w3 ho3 hg3 hat3)))
              have HStn : Held (St w w3 v2 (out' ++ [⟨a, b, cc, d, e⟩]) (N' + 1)) := ⟨by
                have hnb : (Value.slice Ao L co).ownBlock ≠ some w.heap.size := by rw [← hL]; exact HNe.out
                have hsc : w2.grownBy (w2.setCell ⟨wB.heap.size, 3, none⟩ (.int .i64 d)) (some wB.heap.size) := ((Keep.refl (fun k => k = wB.heap.size) w2).setCell (p := ⟨wB.heap.size, 3, none⟩) (fun _ => rfl) (.int .i64 d)).to_grown (fun i _ h => by rw [h])
                refine ⟨?_, HRs.out.snoc hf ⟨by simp only; omega, hgx.out.d.2⟩, ⟨D.put kx (.lit (.int .i64 L)), ?_, ?_⟩, ?_⟩
                · unfold OwnG tcells
                  rw [List.length_append, hL, List.flatMap_append]
                  exact ho3
                · refine ((hown2.kept hsc (fun h => ?_)).alloc _).kept hg3 (fun h => hnb h.symm)
                  injection h with h
                  have := HLt.out
                  omega
                · rw [← hkx, ← hL]
                  exact HInv.out.snoc hgx.out (HRs.out.snoc hf ⟨by simp only; omega, hgx.out.d.2⟩).uniq hf
                · refine ((((((Keep.of_below HBe.out (fun k => k = wB.heap.size)).alloc _).grown hgrow2 (fun k hk h => by injection h with h; omega)).setCell (p := ⟨wB.heap.size, 3, none⟩) (fun _ => rfl) _).alloc _).grown hg3 (fun k hk h => ?_)).to_below (fun k hk h => by have := HLt.out; omega)
                  have := own_ge HOu.out k (by rw [hL]; exact h)
                  omega⟩
              clear hown2 hgrow2 q0 q1 q2 q3 q4 qf ho3 hg3 hat3
              refine ⟨⟨m + 1, N' + 1, out' ++ [⟨a, b, cc, d, e⟩], by go_num, by omega, HStn, HRun, ⟨by have := HNn'.out; simp only [List.length_cons] at this; omega⟩⟩, ?_⟩
              simp [intOf] <;> omega
            | some j =>
              obtain ⟨hj, hkey⟩ := find_lt hf
              obtain ⟨hhas, hat⟩ := HInv.out.yes _ hgx.out j hf
              rw [hkx] at hhas hat
              have HAt := Held.mk hat
              obtain ⟨g, cap, hv, _, hgl⟩ := World.ownsRow.form (h := HOu.out) (by omega)
              rw [hL] at hv
              injection hv with hv1 _ hv2
              subst hv1
              subst hv2
              have HOa : Held ((wB.alloc (.cells #[.int .i64 a, .int .i64 b, .int .i64 cc, .int .i64 0, .int .i64 e] 89)).ownsRow w.heap.size 89 5 (.slice (some ⟨g, 0, none⟩) L co) L (tcells out')) := ⟨by
                have := HOu.out
                unfold OwnG at this
                rw [hL] at this
                exact this.alloc _⟩
              have hjL : j < L := by omega
              have hjI : 0 ≤ (j : Int) ∧ (j : Int) < (L : Int) := ⟨by omega, by omega⟩
              obtain ⟨yd, hyd⟩ : ∃ q, out'[j].d = q := ⟨_, rfl⟩
              have hyq := HRs.out.qty out'[j] (List.getElem_mem hj)
              rw [hyd] at hyq
              have r3 : (wB.alloc (.cells #[.int .i64 a, .int .i64 b, .int .i64 cc, .int .i64 0, .int .i64 e] 89)).cell? ⟨g, j * 5 + 3, none⟩ = some (.int .i64 yd) := by
                rw [World.ownsRow.cellAt HOa.out (j * 5 + 3) (by omega)]
                unfold tcells
                rw [Law.flat_get Lg.cells 5 Lg.cells_len out' j 3 hj (by omega), ← hyd]
                rfl
              have rf : (wB.alloc (.cells #[.int .i64 a, .int .i64 b, .int .i64 cc, .int .i64 0, .int .i64 e] 89)).frozen? ⟨g, j * 5 + 3, none⟩ = false := World.ownsRow.frozenAt HOa.out _
              have hdu := hgx.out.d.2
              simp only at hdu
              clear hat
              by_cases ho : 9223372036854775807 - yd < d
              · have i4 : decide (9223372036854775807 - yd < d) = true := decide_eq_true ho
                go_wp2_with (at_lookup; refine wpList_lookup_known _ rfl _ _ 90 rfl 89 3 .i64 law Tryd.underlying90 Tryd.underlying3 (zeroE _) w.heap.size N' D rfl HMap.out _ kx rfl HKx.out j HAt.out ?_)
                go_ret2
                rw [runP_over (by simp only; omega) hf hj (by simp only [hyd]; exact ho)] at HRn'
                rw [← HRn'.out]
                exact ⟨_, rfl, own_nil _ _ _ _, HBe.out.alloc HBe.out.size _⟩
              · have i4 : decide (9223372036854775807 - yd < d) = false := decide_eq_false ho
                go_wp2_with (at_lookup; refine wpList_lookup_known _ rfl _ _ 90 rfl 89 3 .i64 law Tryd.underlying90 Tryd.underlying3 (zeroE _) w.heap.size N' D rfl HMap.out _ kx rfl HKx.out j HAt.out ?_)
                have HOb : Held (wB.ownsRow w.heap.size 89 5 (.slice (some ⟨g, 0, none⟩) L co) L (tcells out')) := ⟨by
                  have := HOu.out
                  unfold OwnG at this
                  rw [hL] at this
                  exact this⟩
                have HStn : Held (St w ((wB.setCell ⟨g, j * 5 + 3, none⟩ (.int .i64 (yd + d))).alloc (.cells #[.int .i64 a, .int .i64 b, .int .i64 cc, .int .i64 0, .int .i64 e] 89)) (.slice (some ⟨g, 0, none⟩) L co) (addq out' j d) (N' + 1)) := ⟨by
                  have hnb : g ≠ w.heap.size := fun h => HNe.out (by rw [hL, h]; rfl)
                  have hgb : w.heap.size ≤ g := own_ge HOu.out g (by rw [hL]; rfl)
                  have hsc : wB.grownBy (wB.setCell ⟨g, j * 5 + 3, none⟩ (.int .i64 (yd + d))) (some g) := ((Keep.refl (fun k => k = g) _).setCell (p := ⟨g, j * 5 + 3, none⟩) (fun _ => rfl) _).to_grown (fun i _ h => by rw [h])
                  refine ⟨?_, HRs.out.add hj (by omega) (by rw [hyd]; exact ho), ⟨D, ((HMapB.out.mono (Nat.le_succ _)).kept hsc (fun h => hnb (by injection h with h; exact h.symm))).alloc _, HInv.out.add HRs.out.uniq j d⟩, ?_⟩
                  · unfold OwnG tcells
                    rw [addq_length, hL, addq_cells out' j d hj, hyd]
                    exact (HOb.out.stored (j * 5 + 3) _).1.alloc _
                  · exact (((Keep.of_below HBe.out (fun k => k = g)).setCell (p := ⟨g, j * 5 + 3, none⟩) (fun _ => rfl) _).alloc _).to_below (fun k hk h => by omega)⟩
                have HRun : Held (runP (addq out' j d) (row.drop (m + 1) ++ rest) = R) := ⟨by rw [← HRn'.out, runP_add (by simp only; omega) hf hj (by simp only [hyd]; exact ho)]⟩
                refine ⟨⟨m + 1, N' + 1, addq out' j d, by go_num, by omega, HStn, HRun, ⟨by have := HNn'.out; simp only [List.length_cons] at this; omega⟩⟩, ?_⟩
                simp [intOf] <;> omega
        · obtain rfl : m = n := by omega
          have i2 : decide ((m : Int) < (m : Int)) = false := decide_eq_false (by omega)
          go_wp2_with fail
          go_roundw
          case rel => exact ⟨k + 1, N', out', by go_num, by omega, HSt', by rw [List.drop_of_length_le (by omega), List.nil_append, ← hrest] at HRn'; exact HRn', by rw [List.drop_of_length_le (by omega), List.nil_append, ← hrest] at HNn'; exact HNn'⟩
          case measure => simp [intOf] <;> omega
    · obtain rfl : k = K := by omega
      have i1 : decide ((k : Int) < (k : Int)) = false := decide_eq_false (by omega)
      rw [List.drop_of_length_le (by have := HK.out; omega), List.flatten_nil] at HRn
      obtain ⟨L, hL⟩ : ∃ L, out.length = L := ⟨_, rfl⟩
      obtain ⟨Ao, co, rfl, hco⟩ := own_slice_ HSt.out.own
      rw [hL]
      by_cases h0 : L = 0
      · subst h0
        go_wp2_with fail
        go_ret2
        rw [← HRn.out, runP, if_pos hL]
        exact ⟨_, rfl, own_nil _ _ _ _, HSt.out.below⟩
      · have i5 : ((L : Int) == 0) = false := by simp; omega
        by_cases h4 : 4 < L
        · have i6 : decide ((4 : Int) < (L : Int)) = true := decide_eq_true (by omega)
          go_wp2_with fail
          go_ret2
          rw [← HRn.out, runP, if_neg (by omega), if_pos (by omega)]
          exact ⟨_, rfl, own_nil _ _ _ _, HSt.out.below⟩
        · have i6 : decide ((4 : Int) < (L : Int)) = false := decide_eq_false (by omega)
          go_wp2_with fail
          go_ret2
          rw [← HRn.out, runP, if_neg (by omega), if_neg (by omega)]
          exact ⟨_, rfl, by rw [← hL]; exact HSt.out.own, HSt.out.below⟩
end Klg
end Go.Proofs.YtgmanmbicoofgaaDoor
