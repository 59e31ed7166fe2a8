/- Lists that were handed out lie apart: walked. -/
import Derived.Test.YtgmanmbicoofgaaDoorKlg
import Derived.Test.YtgmanmbicoofgaaDoorAps
namespace Go.Proofs.YtgmanmbicoofgaaDoor
set_option linter.unusedVariables false
set_option linter.unusedSimpArgs false
namespace Klg
open Go.RowKit Mem Aps
/-- The marks of legs. -/
def mkL (k i : Nat) : List Value := (mk5 k i).cells
theorem mkL_marks : Marks mkL 5 := ⟨fun _ _ => rfl, fun _ _ u hu => Lg.one_ _ u hu⟩
theorem mkL_add (k n m : Nat) : mkL k (n + m) = [.int .i64 (-10 - (k : Int)), .int .i64 ((n : Int) + (m : Int)), .int .i64 0, .int .i64 0, .int .i64 0] := by
  simp [mkL, mk5, Lg.cells]
theorem info_legs : (Tryd.prog.info? 43).map (fun i => (i.zero, i.size, i.bytes)) = some (some (.slice none 0 0), 1, 24) := by kernel_rfl
theorem far1 {w : World} {a p : Addr} {u v : Value} (hne : a.block ≠ p.block) (h : w.cell? a = some v) : (w.setCell p u).cell? a = some v := by
  rw [World.cell?_of_block (Below.heap_setCell w p u a.block hne)]
  exact h
theorem take_five (xs : List Value) (i : Nat) (a b c d e : Value) (hl : i * 5 + 5 ≤ xs.length) :
    (((((xs.set (i * 5) a).set (i * 5 + 1) b).set (i * 5 + 2) c).set (i * 5 + 3) d).set (i * 5 + 4) e).take ((i + 1) * 5) = xs.take (i * 5) ++ [a, b, c, d, e] := by
  apply List.ext_getElem?
  intro j
  rw [List.getElem?_take]
  rcases Nat.lt_or_ge j (i * 5) with h | h
  · rw [if_pos (by omega), List.getElem?_append_left (by simp; omega), List.getElem?_take, if_pos h]
    rw [List.getElem?_set_ne (by omega), List.getElem?_set_ne (by omega), List.getElem?_set_ne (by omega), List.getElem?_set_ne (by omega), List.getElem?_set_ne (by omega)]
  · rw [List.getElem?_append_right (by simp; omega), List.length_take, Nat.min_eq_left (by omega)]
    obtain ⟨t, rfl⟩ : ∃ t, j = i * 5 + t := ⟨j - i * 5, by omega⟩
    rw [Nat.add_sub_cancel_left]
    rcases Nat.lt_or_ge t 5 with h5 | h5
    · rw [if_pos (by omega)]
      have ht : t = 0 ∨ t = 1 ∨ t = 2 ∨ t = 3 ∨ t = 4 := by omega
      rcases ht with rfl | rfl | rfl | rfl | rfl <;> simp [List.getElem?_set] <;> omega
    · rw [if_neg (by omega)]
      simp
      omega
theorem own_five {w : World} {base n g cap i : Nat} {e : TypeId} {xs : List Value} (h : w.ownsRow base e 5 (.slice (some ⟨g, 0, none⟩) n cap) n xs) (hi : i < n) (a b c d f : Value) :
    ∃ ys, (((((w.setCell ⟨g, i * 5, none⟩ a).setCell ⟨g, i * 5 + 1, none⟩ b).setCell ⟨g, i * 5 + 2, none⟩ c).setCell ⟨g, i * 5 + 3, none⟩ d).setCell ⟨g, i * 5 + 4, none⟩ f).ownsRow base e 5 (.slice (some ⟨g, 0, none⟩) n cap) n ys ∧ ys.take ((i + 1) * 5) = xs.take (i * 5) ++ [a, b, c, d, f] :=
  ⟨_, (((((h.stored (i * 5) a).1.stored (i * 5 + 1) b).1.stored (i * 5 + 2) c).1.stored (i * 5 + 3) d).1.stored (i * 5 + 4) f).1, take_five xs i a b c d f (by have := h.1; omega)⟩
theorem keep_five (w : World) (S : Nat → Prop) (g i : Nat) (hg : S g) (a b c d f : Value) :
    Keep S w (((((w.setCell ⟨g, i * 5, none⟩ a).setCell ⟨g, i * 5 + 1, none⟩ b).setCell ⟨g, i * 5 + 2, none⟩ c).setCell ⟨g, i * 5 + 3, none⟩ d).setCell ⟨g, i * 5 + 4, none⟩ f) :=
  ((((((Keep.refl S w).setCell (p := ⟨g, i * 5, none⟩) (fun _ => hg) a).setCell (p := ⟨g, i * 5 + 1, none⟩) (fun _ => hg) b).setCell (p := ⟨g, i * 5 + 2, none⟩) (fun _ => hg) c).setCell (p := ⟨g, i * 5 + 3, none⟩) (fun _ => hg) d).setCell (p := ⟨g, i * 5 + 4, none⟩) (fun _ => hg) f)
set_option maxHeartbeats 2000000 in
set_option maxRecDepth 100000 in
theorem apart_in (base K : Nat) (A : Option Addr) (c : Nat) (V : Nat → Value) (N : Nat → Nat) (okO : Nat → Prop) (w : World) (hr : RdV w okO 1 A K ((List.range K).map V)) (hbase : base ≤ w.heap.size)
    (hV : ∀ j, j < K → ∃ xs, w.ownsRow base 89 5 (V j) (N j) xs) (hF : Fst V K) (hO : ∀ b, Tch V K b → ¬ okO b) (hK : K ≤ 1000) (hN : ∀ j, N j ≤ 1000000000000) :
    Calls Tryd.prog 25 #[.slice A K c] w fun e w' => e = .returned (.bool true) ∧ Keep (Tch V K) w w' := by
  have Hr := Held.mk hr
  have HV := Held.mk hV
  have HF := Held.mk hF
  have HO := Held.mk hO
  have HN := Held.mk hN
  have HK := Held.mk hK
  have HBs := Held.mk hbase
  have HAt : Held (∀ k, k < K → ∃ ad : Addr, A = some ad ∧ okO (ad.add k).block ∧ ∀ wr, Keep (Tch V K) w wr → wr.cell? (ad.add k) = some (V k)) := ⟨fun k hk => by
    obtain ⟨ad, e, hb, hc⟩ := hr.2 (by omega)
    refine ⟨ad, e, by rw [block_of_add]; exact hb, fun wr hkp => hkp.cell (hc k _ (by simp [hk])) (fun h => hO _ h (by rw [block_of_add]; exact hb))⟩⟩
  have hKI : (K : Int) ≤ 1000 := by omega
  clear hr hV hF hO hN hK hbase
  go_enter Tryd.func25, Tryd.ntmps25
  go_wp2_with fail
  go_loopw [3] (fun i wr => ∃ (k : Nat), i = .int .i64 k ∧ k ≤ K ∧ Held (InvA mkL base 89 5 K V N w wr k 0)) (fun i _ => K - (intOf i).toNat)
  case atStart => exact ⟨0, rfl, Nat.zero_le _, ⟨InvA.start HV.out⟩⟩
  case round =>
    obtain ⟨k, rfl, hk, HIA⟩ := hrel
    by_cases hlt : k < K
    · obtain ⟨ad, rfl, hokb, hcc⟩ := HAt.out k hlt
      have HC := Held.mk hcc
      have HNO : Held (∀ b, (V k).ownBlock = some b → (ad.add k).block ≠ b) := ⟨fun b hb e => HO.out b ⟨k, hlt, hb⟩ (e ▸ hokb)⟩
      obtain ⟨Ak, ck, ek, _⟩ := own_slc (HIA.out.row hlt).choose_spec.1
      rw [ek] at HC HNO
      have HE := Held.mk ek
      have hc0 := HC.out _ HIA.out.keep
      have hNk : (N k : Int) ≤ 1000000000000 := by have := HN.out k; omega
      clear hcc ek hokb
      go_wp2_with fail
      clear hc0
      go_loopw [4] (fun i wr => ∃ (m : Nat), i = .int .i64 m ∧ m ≤ N k ∧ Held (InvA mkL base 89 5 K V N w wr k m)) (fun i _ => N k - (intOf i).toNat)
      case atStart => exact ⟨0, rfl, Nat.zero_le _, HIA⟩
      case round =>
        clear HIA
        obtain ⟨m, rfl, hm, HIB⟩ := hrel
        have hc0 := HC.out _ HIB.out.keep
        by_cases hlm : m < N k
        · obtain ⟨xs, ho, ht⟩ := HIB.out.row hlt
          rw [HE.out] at ho
          obtain ⟨g, cap, hv, _, _⟩ := ho.form (show 0 < N k by omega)
          injection hv with hv1 hv2 hv3
          subst hv1
          subst hv3
          have hl := ho.1
          have HTk := Held.mk ht
          have HOk := Held.mk ho
          have HCl : Held (∀ t, t < 5 → ∃ u, ∀ w', Below wr.heap.size wr w' → w'.cell? ⟨g, m * 5 + t, none⟩ = some u ∧ w'.frozen? ⟨g, m * 5 + t, none⟩ = false) := ⟨fun t ht5 => by
            refine ⟨xs[m * 5 + t]'(by omega), fun w' hb => ?_⟩
            have ho2 := (Keep.of_below hb (fun _ => False)).own HOk.out (fun _ _ h => h)
            exact ⟨(ho2.cellAt (m * 5 + t) (by omega)).trans (List.getElem?_eq_getElem _), ho2.frozenAt _⟩⟩
          obtain ⟨u0, h0⟩ := HCl.out 0 (by omega)
          obtain ⟨u1, h1⟩ := HCl.out 1 (by omega)
          obtain ⟨u2, h2⟩ := HCl.out 2 (by omega)
          obtain ⟨u3, h3⟩ := HCl.out 3 (by omega)
          obtain ⟨u4, h4⟩ := HCl.out 4 (by omega)
          rw [Nat.add_zero] at h0
          have H0 := Held.mk h0
          have H1 := Held.mk h1
          have H2 := Held.mk h2
          have H3 := Held.mk h3
          have H4 := Held.mk h4
          have HMk := Held.mk (fun w => mark_in k m w (by have := HK.out; omega))
          unfold mk5 Lg.cells at HMk
          have HNE : Held ((ad.add k).block ≠ g) := ⟨HNO.out g rfl⟩
          clear h0 h1 h2 h3 h4 ho ht hl
          go_wp2_with fail
          go_region_held3 (fun w' => w'.cell? (ad.add k) = some (.slice (some ⟨g, 0, none⟩) (N k) ck)) (first | (refine far1 (by exact HNE.out) ?_; refine far1 (by exact HNE.out) ?_; refine far1 (by exact HNE.out) ?_; refine far1 (by exact HNE.out) ?_; refine far1 (by exact HNE.out) ?_; assumption) | go_keep)
            ((go_at_call 57; refine (HMk.out _).mono ?_; rintro e w2 ⟨rfl, hb2⟩; have hb2' : Below wr.heap.size wr w2 := (below_drw (Below.refl _ _)).trans (by exact hb2); have hc0 := (Keep.of_below hb2' (fun _ => False)).cell hc0 (fun h => h); obtain ⟨c0, f0⟩ := H0.out _ hb2'; obtain ⟨c1, f1⟩ := H1.out _ hb2'; obtain ⟨c2, f2⟩ := H2.out _ hb2'; obtain ⟨c3, f3⟩ := H3.out _ hb2'; obtain ⟨c4, f4⟩ := H4.out _ hb2'))
          have HO5 := own_five ((Keep.of_below hb2' (fun _ => False)).own HOk.out (fun _ _ h => h)) hlm (.int .i64 (-10 - (k : Int))) (.int .i64 (m : Int)) (.int .i64 0) (.int .i64 0) (.int .i64 0)
          obtain ⟨ys, hys, hty⟩ := HO5
          have HN5 : Held (InvA mkL base 89 5 K V N w _ k (m + 1)) := ⟨HIB.out.next HF.out hlt ((Keep.of_below hb2' _).trans (keep_five w2 (fun b => (V k).ownBlock = some b) g m (by rw [HE.out]; rfl) (.int .i64 (-10 - (k : Int))) (.int .i64 (m : Int)) (.int .i64 0) (.int .i64 0) (.int .i64 0))) ys (by rw [HE.out]; exact hys) (by rw [hty, HTk.out]; rfl)⟩
          clear hb2 hb2' hc0 c0 f0 c1 f1 c2 f2 c3 f3 c4 f4 hys hty
          go_wp2_with fail
          go_roundw
          case rel => exact ⟨m + 1, by go_num, by omega, HN5⟩
          case measure => simp [intOf]; omega
        · have hme : m = N k := by omega
          subst hme
          go_wp2_with fail
          go_roundw
          case rel => exact ⟨k + 1, by go_num, by omega, ⟨HIB.out.done⟩⟩
          case measure => simp [intOf]; omega
    · obtain rfl : K = k := by omega
      have HB0 : ∃ W0, Held (InvB mkL base 89 43 5 K 64 V N w W0 wr 0 (.slice none 0 0) V) := ⟨wr, ⟨InvB.start HIA.out⟩⟩
      obtain ⟨W0, HB0⟩ := HB0
      clear HIA
      go_wp2_with fail
      go_loopw [5, 6] (fun gs i wr => ∃ (k : Nat) (G : Nat → Value), i = .int .i64 k ∧ k ≤ K ∧ Held (InvB mkL base 89 43 5 K 64 V N w W0 wr k gs G)) (fun _ i _ => K - (intOf i).toNat)
      case atStart => exact ⟨0, V, rfl, Nat.zero_le _, HB0⟩
      case round =>
        clear HB0
        obtain ⟨k, G, rfl, hk2, HIB⟩ := hrel
        obtain ⟨As, cs, rfl, _⟩ := own_slc HIB.out.gs
        by_cases hlt2 : k < K
        · obtain ⟨ad, rfl, hokb, hcc⟩ := HAt.out k hlt2
          obtain ⟨Ak, ck, ek, _⟩ := own_slc (HIB.out.todo k (Nat.le_refl _) hlt2)
          have HC : Held (∀ wy, Keep (fun b => (V k).ownBlock = some b) wr wy → wy.cell? (ad.add k) = some (.slice Ak (N k) ck)) := ⟨fun wy hy => by
            rw [← ek]
            exact hcc wy (HIB.out.keep.then hy (fun b _ hb => ⟨k, hlt2, hb⟩))⟩
          have HI0 := Held.mk (InvI.start HIB.out hlt2)
          rw [ek] at HI0
          have hc0 := HC.out _ (Keep.refl _ _)
          have HBw : Held (base ≤ wr.heap.size) := ⟨by have := HBs.out; have := HIB.out.keep.size; omega⟩
          have HGI : Held (∀ wx g i, InvI mkL base 89 5 k V N wr wx g i → wx.ownsRow W0.heap.size 43 1 (.slice As k cs) k ((List.range k).map G)) := ⟨fun wx g i hi => HIB.out.gsI hlt2 hi⟩
          have HSz : Held (W0.heap.size ≤ wr.heap.size) := ⟨HIB.out.size⟩
          clear hcc ek hokb
          go_wp2_with fail
          clear hc0
          go_loopw [7, 8] (fun g i wy => ∃ (m : Nat), i = .int .i64 m ∧ m ≤ 64 ∧ Held (InvI mkL base 89 5 k V N wr wy g m)) (fun _ i _ => 64 - (intOf i).toNat)
          case atStart => exact ⟨0, rfl, by omega, HI0⟩
          case round =>
            clear HI0
            obtain ⟨m, rfl, hm, HI⟩ := hrel
            obtain ⟨Ag, cg, rfl, _⟩ := own_slc HI.out.pair.own
            have hNk : (N k : Int) ≤ 1000000000000 := by have := HN.out k; omega
            by_cases hlm : m < 64
            · have hc0 := HC.out _ HI.out.keep
              have HMk := Held.mk (fun w => mark_in k (N k + m) w (by have := HK.out; omega))
              have hadd : ((N k + m : Nat) : Int) = (N k : Int) + (m : Int) := by omega
              unfold mk5 Lg.cells at HMk
              simp only [hadd] at HMk
              have HC3 : Held (((N k + m + 1) + (N k + m + 1) / 4 + 192) * 40 ≤ 281474976710656) := ⟨by have := HN.out k; omega⟩
              go_wp2_with (first
                | (go_at_call 57; refine (HMk.out _).mono ?_; rintro e w2 ⟨rfl, hb2⟩; have HI2 := Held.mk ((HI.out.below hb2).below ((Below.refl _ _).alloc (Nat.le_refl _) (.cells #[.int .i64 (-10 - (k : Int)), .int .i64 ((N k : Int) + (m : Int)), .int .i64 0, .int .i64 0, .int .i64 0] 89))); have HRd : Held (RdV (w2.alloc (.cells #[.int .i64 (-10 - (k : Int)), .int .i64 ((N k : Int) + (m : Int)), .int .i64 0, .int .i64 0, .int .i64 0] 89)) (fun _ => True) 5 (some ⟨w2.heap.size, 0, none⟩) 1 (mkL k (N k + m))) := ⟨by rw [mkL_add]; exact rd_new w2 _ 5 _ rfl⟩; have HC4 : Held (base ≤ (w2.alloc (.cells #[.int .i64 (-10 - (k : Int)), .int .i64 ((N k : Int) + (m : Int)), .int .i64 0, .int .i64 0, .int .i64 0] 89)).heap.size) := ⟨Nat.le_trans HBw.out HI2.out.keep.size⟩; clear hb2 hc0)
                | ((at_builtin; go_loud (refine appT base rfl (.tmp 50) (.tmp 60) 43 89 (.agg #[.int .i64 0, .int .i64 0, .int .i64 0, .int .i64 0, .int .i64 0]) 5 40 rfl Tryd.underlying43 info_leg rfl (by decide) (by decide) _ (N k + m) (mkr mkL k (N k + m)) rfl HI2.out.pair.own (fun _ => True) (some ⟨w2.heap.size, 0, none⟩) 1 1 (mkL k (N k + m)) rfl HRd.out (mkL_marks.one _ _) HC3.out HC4.out ?_)); (intro v2 w3 ho3 hg3 hat3); (have HI3 := Held.mk (HI2.out.next mkL_marks ho3 hg3 hat3)); (clear ho3 hg3 hat3)))
              go_roundw
              case rel => exact ⟨m + 1, by go_num, by omega, ⟨HI3.out⟩⟩
              case measure => simp [intOf]; omega
            · obtain rfl : m = 64 := by omega
              have HGal : Held ((wr.alloc (.cells #[.slice Ag (N k + 64) cg] 43)).ownsRow W0.heap.size 43 1 (.slice As k cs) k ((List.range k).map G)) := ⟨(HGI.out _ _ _ HI.out).alloc _⟩
              have HRd := Held.mk (rd_new wr [.slice Ag (N k + 64) cg] 1 43 rfl)
              have HC3 : Held (((k + 1) + (k + 1) / 4 + 192) * 24 ≤ 281474976710656) := ⟨by have := HK.out; omega⟩
              have HC4 : Held (W0.heap.size ≤ (wr.alloc (.cells #[.slice Ag (N k + 64) cg] 43)).heap.size) := ⟨by have h1 := HSz.out; have h2 := HI.out.keep.size; simp; omega⟩
              go_wp2_with ((at_builtin; go_loud (refine appS _ W0.heap.size rfl (.tmp 62) (.tmp 64) 42 43 (.slice none 0 0) 1 24 rfl Tryd.underlying42 info_legs rfl (by decide) (by decide) _ k ((List.range k).map G) rfl HGal.out (fun _ => True) (some ⟨wr.heap.size, 0, none⟩) 1 1 [.slice Ag (N k + 64) cg] rfl HRd.out (by simp [Value.oneCell']) HC3.out HC4.out ?_)); (intro v2 w3 ho3 hg3 hat3); (have HN3 := Held.mk (HIB.out.next (by decide) HF.out hlt2 HI.out ho3 (((Keep.refl _ _).alloc _).grown hg3 (fun b _ e => e)))); (clear ho3 hg3 hat3))
              go_roundw
              case rel => exact ⟨k + 1, _, by go_num, by omega, ⟨HN3.out⟩⟩
              case measure => simp [intOf]; omega
        · obtain rfl : K = k := by omega
          have HWB : ∃ WB, Held (InvB mkL base 89 43 5 K 64 V N w W0 WB K (.slice As K cs) G) ∧ Held (Below WB.heap.size WB wr) := ⟨wr, HIB, ⟨Below.refl _ _⟩⟩
          clear HIB
          obtain ⟨WB, HIB, HBe⟩ := HWB
          go_wp2_with fail
          go_loopw [9] (fun i wr => ∃ (k : Nat), i = .int .i64 k ∧ k ≤ K ∧ Held (Below WB.heap.size WB wr)) (fun i _ => K - (intOf i).toNat)
          case atStart => exact ⟨0, rfl, Nat.zero_le _, HBe⟩
          case round =>
            clear HBe
            obtain ⟨k, rfl, hk3, HBw⟩ := hrel
            by_cases hlt3 : k < K
            · obtain ⟨ad, rfl, hokb, hcc⟩ := HAt.out k hlt3
              have HPr := Held.mk (HIB.out.done k hlt3)
              obtain ⟨Ak, ck, ek, _⟩ := HPr.out.rd
              obtain ⟨Ag, cg, eG, _⟩ := own_slc HPr.out.own
              obtain ⟨g0, cap0, e0, _, _⟩ := HIB.out.gs.form (by omega)
              injection e0 with e1 _ e3
              subst e1
              have HCv : Held (∀ w', Below WB.heap.size WB w' → w'.cell? (ad.add k) = some (.slice Ak (N k) ck)) := ⟨fun w' hb => by
                rw [← ek]
                exact hcc w' (HIB.out.keep.below hb)⟩
              have HCg : Held (∀ w', Below WB.heap.size WB w' → w'.cell? ⟨g0, k, none⟩ = some (.slice Ag (N k + 64) cg)) := ⟨fun w' hb => by
                have h1 := (Keep.of_below hb (fun _ => False)).own HIB.out.gs (fun _ _ h => h)
                rw [h1.cellAt k (by omega), ← eG]
                simp [hlt3]⟩
              have HPg : Held (∀ m, m < N k + 64 → ∃ b, Ag = some ⟨b, 0, none⟩ ∧ ∀ w', Below WB.heap.size WB w' → ∀ t, t < 5 → w'.cell? ⟨b, m * 5 + t, none⟩ = (mkL k m)[t]?) := ⟨fun m hm => by
                obtain ⟨b, cap, h1, h2⟩ := HPr.out.get mkL_marks m hm
                rw [eG] at h1
                injection h1 with h3
                refine ⟨b, h3, fun w' hb t ht => ?_⟩
                have h5 := h2 t ht
                rw [List.getElem?_eq_getElem (show t < (mkL k m).length from ht)] at h5 ⊢
                exact (Keep.of_below hb (fun _ => False)).cell h5 (fun h => h)⟩
              have HPv : Held (∀ m, m < N k → ∃ b, Ak = some ⟨b, 0, none⟩ ∧ ∀ w', Below WB.heap.size WB w' → ∀ t, t < 5 → w'.cell? ⟨b, m * 5 + t, none⟩ = (mkL k m)[t]?) := ⟨fun m hm => by
                obtain ⟨b, cap, h1, h2⟩ := HPr.out.got mkL_marks m hm
                rw [ek] at h1
                injection h1 with h3
                refine ⟨b, h3, fun w' hb t ht => ?_⟩
                have h5 := h2 t ht
                rw [List.getElem?_eq_getElem (show t < (mkL k m).length from ht)] at h5 ⊢
                exact (Keep.of_below hb (fun _ => False)).cell h5 (fun h => h)⟩
              have hNk : (N k : Int) ≤ 1000000000000 := by have := HN.out k; omega
              have hcg := HCg.out _ HBw.out
              clear hcc ek eG hokb e3
              go_wp2_with fail
              clear hcg
              go_loopw [10] (fun i wr => ∃ (m : Nat), i = .int .i64 m ∧ m ≤ N k + 64 ∧ Held (Below WB.heap.size WB wr)) (fun i _ => N k + 64 - (intOf i).toNat)
              case atStart => exact ⟨0, rfl, by omega, HBw⟩
              case round =>
                clear HBw
                obtain ⟨m, rfl, hm, HBx⟩ := hrel
                have hcg := HCg.out _ HBx.out
                by_cases hlm : m < N k + 64
                · obtain ⟨bg, rfl, hfg⟩ := HPg.out m hlm
                  have HFg := Held.mk hfg
                  have HMk := Held.mk (fun w => mark_in k m w (by have := HK.out; omega))
                  unfold mk5 Lg.cells at HMk
                  by_cases hin : m < N k
                  · obtain ⟨bv, rfl, hfv⟩ := HPv.out m hin
                    have HFv := Held.mk hfv
                    clear hfg hfv
                    go_wp2_with ((go_at_call 57; refine (HMk.out _).mono ?_; rintro e w2 ⟨rfl, hb2⟩; have HB2 := Held.mk (HBx.out.trans (hb2.mono HBx.out.size)); clear hb2 hcg))
                    have HB5 := Held.mk (HB2.out.alloc HB2.out.size (.cells #[.int .i64 (-10 - (k : Int)), .int .i64 (m : Int), .int .i64 0, .int .i64 0, .int .i64 0] 89))
                    have HN := Blk.new w2 89 #[.int .i64 (-10 - (k : Int)), .int .i64 (m : Int), .int .i64 0, .int .i64 0, .int .i64 0]
                    generalize w2.alloc (.cells #[.int .i64 (-10 - (k : Int)), .int .i64 (m : Int), .int .i64 0, .int .i64 0, .int .i64 0] 89) = W5 at *
                    generalize w2.heap.size = gn at *
                    have n0 := HN.cell 0
                    have n1 := HN.cell 1
                    have n2 := HN.cell 2
                    have n3 := HN.cell 3
                    have n4 := HN.cell 4
                    have hcg := HCg.out _ HB5.out
                    have hcv := HCv.out _ HB5.out
                    have g0 := HFg.out _ HB5.out 0 (by omega)
                    have g1 := HFg.out _ HB5.out 1 (by omega)
                    have g2 := HFg.out _ HB5.out 2 (by omega)
                    have g3 := HFg.out _ HB5.out 3 (by omega)
                    have g4 := HFg.out _ HB5.out 4 (by omega)
                    simp [mkL, mk5, Lg.cells] at n0 n1 n2 n3 n4 g0 g1 g2 g3 g4
                    have v0 := HFv.out _ HB5.out 0 (by omega)
                    have v1 := HFv.out _ HB5.out 1 (by omega)
                    have v2 := HFv.out _ HB5.out 2 (by omega)
                    have v3 := HFv.out _ HB5.out 3 (by omega)
                    have v4 := HFv.out _ HB5.out 4 (by omega)
                    simp [mkL, mk5, Lg.cells] at v0 v1 v2 v3 v4
                    have hinI : (m : Int) < (N k : Int) := by omega
                    clear HN
                    go_quiet (fail)
                    clear hcg hcv g0 g1 g2 g3 g4 n0 n1 n2 n3 n4
                    go_wp2_with fail
                    go_roundw
                    case rel => exact ⟨m + 1, by go_num, by omega, ⟨below_drwN HB5.out _⟩⟩
                    case measure => simp [intOf]; omega
                  · skip
                    clear hfg
                    go_wp2_with ((go_at_call 57; refine (HMk.out _).mono ?_; rintro e w2 ⟨rfl, hb2⟩; have HB2 := Held.mk (HBx.out.trans (hb2.mono HBx.out.size)); clear hb2 hcg))
                    have HB5 := Held.mk (HB2.out.alloc HB2.out.size (.cells #[.int .i64 (-10 - (k : Int)), .int .i64 (m : Int), .int .i64 0, .int .i64 0, .int .i64 0] 89))
                    have HN := Blk.new w2 89 #[.int .i64 (-10 - (k : Int)), .int .i64 (m : Int), .int .i64 0, .int .i64 0, .int .i64 0]
                    generalize w2.alloc (.cells #[.int .i64 (-10 - (k : Int)), .int .i64 (m : Int), .int .i64 0, .int .i64 0, .int .i64 0] 89) = W5 at *
                    generalize w2.heap.size = gn at *
                    have n0 := HN.cell 0
                    have n1 := HN.cell 1
                    have n2 := HN.cell 2
                    have n3 := HN.cell 3
                    have n4 := HN.cell 4
                    have hcg := HCg.out _ HB5.out
                    have hcv := HCv.out _ HB5.out
                    have g0 := HFg.out _ HB5.out 0 (by omega)
                    have g1 := HFg.out _ HB5.out 1 (by omega)
                    have g2 := HFg.out _ HB5.out 2 (by omega)
                    have g3 := HFg.out _ HB5.out 3 (by omega)
                    have g4 := HFg.out _ HB5.out 4 (by omega)
                    simp [mkL, mk5, Lg.cells] at n0 n1 n2 n3 n4 g0 g1 g2 g3 g4
                    have hinI : ¬ (m : Int) < (N k : Int) := by omega
                    clear HN
                    go_quiet (fail)
                    clear hcg hcv g0 g1 g2 g3 g4 n0 n1 n2 n3 n4
                    go_wp2_with fail
                    go_roundw
                    case rel => exact ⟨m + 1, by go_num, by omega, ⟨below_drwN HB5.out _⟩⟩
                    case measure => simp [intOf]; omega
                · obtain rfl : m = N k + 64 := by omega
                  go_wp2_with fail
                  go_roundw
                  case rel => exact ⟨k + 1, by go_num, by omega, HBx⟩
                  case measure => simp [intOf]; omega
            · go_wp2_with fail
              go_ret
              exact ⟨rfl, HIB.out.keep.below HBw.out⟩
end Klg
end Go.Proofs.YtgmanmbicoofgaaDoor
