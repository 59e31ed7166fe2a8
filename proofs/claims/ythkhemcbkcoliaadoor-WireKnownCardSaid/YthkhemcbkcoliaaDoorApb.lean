/- Lists of Bytes that were handed out lie apart: walked. -/
import Derived.Test.YthkhemcbkcoliaaDoorKept
import Derived.Test.YthkhemcbkcoliaaDoorPut
import Derived.Test.YthkhemcbkcoliaaDoorAps
import Derived.Deep.RegionHeld3
import Derived.Deep.QuietTactic
namespace Go.Proofs.YthkhemcbkcoliaaDoor
set_option linter.unusedVariables false
set_option linter.unusedSimpArgs false
namespace AptBytes
open Go.RowKit Mem Aps Wire
def mkB (k i : Nat) : List Value := [.int .u8 (Kit.mark k i)]
theorem mkB_marks : Marks mkB 1 := ⟨fun _ _ => rfl, fun _ _ u hu => by simp [mkB] at hu; subst hu; rfl⟩
theorem mkB_add (k n m : Nat) : mkB k (n + m) = [.int .u8 (Kit.mark k ((n : Int) + (m : Int)))] := by
  simp [mkB]
theorem info_rows : (Tryd.prog.info? 23).map (fun i => (i.zero, i.size, i.bytes)) = some (some (.slice none 0 0), 1, 24) := by kernel_rfl
theorem far1 {w : World} {a p : Addr} {u v : Value} (hne : a.block ≠ p.block) (h : w.cell? a = some v) : (w.setCell p u).cell? a = some v := by
  rw [World.cell?_of_block (Below.heap_setCell w p u a.block hne)]
  exact h
theorem own_one {w : World} {base n g cap i : Nat} {e : TypeId} {xs : List Value} (h : w.ownsRow base e 1 (.slice (some ⟨g, 0, none⟩) n cap) n xs) (hi : i < n) (a : Value) :
    (w.setCell ⟨g, i, none⟩ a).ownsRow base e 1 (.slice (some ⟨g, 0, none⟩) n cap) n (xs.set i a) ∧ (xs.set i a).take ((i + 1) * 1) = xs.take (i * 1) ++ [a] := by
  refine ⟨(h.stored i a).1, ?_⟩
  have hl := h.1
  rw [Nat.mul_one, Nat.mul_one, List.take_succ_eq_append_getElem (by simp; omega), List.take_set_of_le (Nat.le_refl _)]
  simp
set_option maxHeartbeats 2000000 in
set_option maxRecDepth 100000 in
theorem apart_in (base K : Nat) (A : Option Addr) (c : Nat) (V : Nat → Value) (N : Nat → Nat) (okO : Nat → Prop) (w : World) (hr : RdV w okO 1 A K ((List.range K).map V)) (hbase : base ≤ w.heap.size)
    (hV : ∀ j, j < K → ∃ xs, w.ownsRow base 5 1 (V j) (N j) xs) (hF : Fst V K) (hO : ∀ b, Tch V K b → ¬ okO b) (hK : K ≤ 1000000) (hN : ∀ j, N j ≤ 1000000000000) :
    Calls Tryd.prog 28 #[.slice A K c] w fun e w' => e = .returned (.bool true) ∧ Keep (Tch V K) w w' := by
  have Hr := Held.mk hr
  have HV := Held.mk hV
  have HF := Held.mk hF
  have HO := Held.mk hO
  have HN := Held.mk hN
  have HK := Held.mk hK
  have HBs := Held.mk hbase
  have HAt : Held (∀ k, k < K → ∃ ad : Addr, A = some ad ∧ okO (ad.add k).block ∧ ∀ wr, Keep (Tch V K) w wr → wr.cell? (ad.add k) = some (V k)) := ⟨fun k hk => by
    obtain ⟨ad, e, hb, hc⟩ := hr.2 (by omega)
    refine ⟨ad, e, by rw [block_of_add]; exact hb, fun wr hkp => hkp.cell (hc k _ (by simp [hk])) (fun h => hO _ h (by rw [block_of_add]; exact hb))⟩⟩
  have hKI : (K : Int) ≤ 1000000 := by omega
  clear hr hV hF hO hN hK hbase
  go_enter Tryd.func28, Tryd.ntmps28
  go_wp2_with fail
  go_loopw [3] (fun i wr => ∃ (k : Nat), i = .int .i64 k ∧ k ≤ K ∧ Held (InvA mkB base 5 1 K V N w wr k 0)) (fun i _ => K - (intOf i).toNat)
  case atStart => exact ⟨0, rfl, Nat.zero_le _, ⟨InvA.start HV.out⟩⟩
  case round =>
    obtain ⟨k, rfl, hk, HIA⟩ := hrel
    by_cases hlt : k < K
    · obtain ⟨ad, rfl, hokb, hcc⟩ := HAt.out k hlt
      have HC := Held.mk hcc
      have HNO : Held (∀ b, (V k).ownBlock = some b → (ad.add k).block ≠ b) := ⟨fun b hb e => HO.out b ⟨k, hlt, hb⟩ (e ▸ hokb)⟩
      obtain ⟨Ak, ck, ek, _⟩ := own_slc (HIA.out.row hlt).choose_spec.1
      rw [ek] at HC HNO
      have HE := Held.mk ek
      have hc0 := HC.out _ HIA.out.keep
      have hNk : (N k : Int) ≤ 1000000000000 := by have := HN.out k; omega
      clear hcc ek hokb
      go_wp2_with fail
      clear hc0
      go_loopw [4] (fun i wr => ∃ (m : Nat), i = .int .i64 m ∧ m ≤ N k ∧ Held (InvA mkB base 5 1 K V N w wr k m)) (fun i _ => N k - (intOf i).toNat)
      case atStart => exact ⟨0, rfl, Nat.zero_le _, HIA⟩
      case round =>
        clear HIA
        obtain ⟨m, rfl, hm, HIB⟩ := hrel
        have hc0 := HC.out _ HIB.out.keep
        by_cases hlm : m < N k
        · obtain ⟨xs, ho, ht⟩ := HIB.out.row hlt
          rw [HE.out] at ho
          obtain ⟨g, cap, hv, _, _⟩ := ho.form (show 0 < N k by omega)
          injection hv with hv1 hv2 hv3
          subst hv1
          subst hv3
          have hl := ho.1
          have HTk := Held.mk ht
          have HOk := Held.mk ho
          have HCl : Held (∃ u, ∀ w', Below wr.heap.size wr w' → w'.cell? ⟨g, m, none⟩ = some u ∧ w'.frozen? ⟨g, m, none⟩ = false) := ⟨by
            refine ⟨xs[m]'(by omega), fun w' hb => ?_⟩
            have ho2 := (Keep.of_below hb (fun _ => False)).own HOk.out (fun _ _ h => h)
            exact ⟨(ho2.cellAt m (by omega)).trans (List.getElem?_eq_getElem _), ho2.frozenAt _⟩⟩
          obtain ⟨u0, h0⟩ := HCl.out
          have H0 := Held.mk h0
          have HMk : Held (∀ W, Calls Tryd.prog 54 #[.int .i64 k, .int .i64 m] W fun e w' => e = .returned (.int .u8 (Kit.mark k m)) ∧ W = w') := ⟨fun W => Kit.mark_any k _ W (by have := HK.out; omega) (by omega) (by omega)⟩
          have HNE : Held ((ad.add k).block ≠ g) := ⟨HNO.out g rfl⟩
          obtain ⟨c0, f0⟩ := H0.out _ (Below.refl _ _)
          clear h0 ho ht hl
          go_wp2_with fail
          go_region_held3 (fun w' => w'.cell? (ad.add k) = some (.slice (some ⟨g, 0, none⟩) (N k) ck)) (first | (refine far1 (by exact HNE.out) ?_; assumption) | go_keep)
            ((go_at_call 54; refine (HMk.out _).mono ?_; rintro e w2 ⟨rfl, rfl⟩))
          obtain ⟨hys, hty⟩ := own_one HOk.out hlm (.int .u8 (Kit.mark k m))
          have HN5 : Held (InvA mkB base 5 1 K V N w ((wr.setCell ⟨g, m, none⟩ (.int .u8 (Kit.mark k m))).drew) k (m + 1)) := ⟨HIB.out.next HF.out hlt (((Keep.refl (fun b => (V k).ownBlock = some b) wr).setCell (p := ⟨g, m, none⟩) (fun _ => by rw [HE.out]; rfl) (.int .u8 (Kit.mark k m))).drew) _ (by rw [HE.out]; exact hys) (by rw [hty, HTk.out]; rfl)⟩
          clear hys hty c0 f0
          go_wp2_with fail
          go_roundw
          case rel => exact ⟨m + 1, by go_num, by omega, HN5⟩
          case measure => simp [intOf]; omega
        · have hme : m = N k := by omega
          subst hme
          go_wp2_with fail
          go_roundw
          case rel => exact ⟨k + 1, by go_num, by omega, ⟨HIB.out.done⟩⟩
          case measure => simp [intOf]; omega
    · obtain rfl : K = k := by omega
      have HB0 : ∃ W0, Held (InvB mkB base 5 23 1 K 64 V N w W0 wr 0 (.slice none 0 0) V) := ⟨wr, ⟨InvB.start HIA.out⟩⟩
      obtain ⟨W0, HB0⟩ := HB0
      clear HIA
      go_wp2_with fail
      go_loopw [5, 6] (fun gs i wr => ∃ (k : Nat) (G : Nat → Value), i = .int .i64 k ∧ k ≤ K ∧ Held (InvB mkB base 5 23 1 K 64 V N w W0 wr k gs G)) (fun _ i _ => K - (intOf i).toNat)
      case atStart => exact ⟨0, V, rfl, Nat.zero_le _, HB0⟩
      case round =>
        clear HB0
        obtain ⟨k, G, rfl, hk2, HIB⟩ := hrel
        obtain ⟨As, cs, rfl, _⟩ := own_slc HIB.out.gs
        by_cases hlt2 : k < K
        · obtain ⟨ad, rfl, hokb, hcc⟩ := HAt.out k hlt2
          obtain ⟨Ak, ck, ek, _⟩ := own_slc (HIB.out.todo k (Nat.le_refl _) hlt2)
          have HC : Held (∀ wy, Keep (fun b => (V k).ownBlock = some b) wr wy → wy.cell? (ad.add k) = some (.slice Ak (N k) ck)) := ⟨fun wy hy => by
            rw [← ek]
            exact hcc wy (HIB.out.keep.then hy (fun b _ hb => ⟨k, hlt2, hb⟩))⟩
          have HI0 := Held.mk (InvI.start HIB.out hlt2)
          rw [ek] at HI0
          have hc0 := HC.out _ (Keep.refl _ _)
          have HBw : Held (base ≤ wr.heap.size) := ⟨by have := HBs.out; have := HIB.out.keep.size; omega⟩
          have HGI : Held (∀ wx g i, InvI mkB base 5 1 k V N wr wx g i → wx.ownsRow W0.heap.size 23 1 (.slice As k cs) k ((List.range k).map G)) := ⟨fun wx g i hi => HIB.out.gsI hlt2 hi⟩
          have HSz : Held (W0.heap.size ≤ wr.heap.size) := ⟨HIB.out.size⟩
          clear hcc ek hokb
          go_wp2_with fail
          clear hc0
          go_loopw [7, 8] (fun g i wy => ∃ (m : Nat), i = .int .i64 m ∧ m ≤ 64 ∧ Held (InvI mkB base 5 1 k V N wr wy g m)) (fun _ i _ => 64 - (intOf i).toNat)
          case atStart => exact ⟨0, rfl, by omega, HI0⟩
          case round =>
            clear HI0
            obtain ⟨m, rfl, hm, HI⟩ := hrel
            obtain ⟨Ag, cg, rfl, _⟩ := own_slc HI.out.pair.own
            have hNk : (N k : Int) ≤ 1000000000000 := by have := HN.out k; omega
            by_cases hlm : m < 64
            · have hc0 := HC.out _ HI.out.keep
              have HMk : Held (∀ W, Calls Tryd.prog 54 #[.int .i64 k, .int .i64 ((N k : Int) + (m : Int))] W fun e w' => e = .returned (.int .u8 (Kit.mark k ((N k : Int) + (m : Int)))) ∧ W = w') := ⟨fun W => Kit.mark_any k _ W (by have := HK.out; omega) (by omega) (by omega)⟩
              have HC3 : Held (((N k + m + 1) + (N k + m + 1) / 4 + 192) * 1 ≤ 281474976710656) := ⟨by have := HN.out k; omega⟩
              have HI2 := Held.mk (HI.out.below ((Below.refl _ _).alloc (Nat.le_refl _) (.cells #[.int .u8 (Kit.mark k ((N k : Int) + (m : Int)))] 5)))
              have HRd : Held (RdV (wr.alloc (.cells #[.int .u8 (Kit.mark k ((N k : Int) + (m : Int)))] 5)) (fun _ => True) 1 (some ⟨wr.heap.size, 0, none⟩) 1 (mkB k (N k + m))) := ⟨by rw [mkB_add]; exact rd_new wr _ 1 _ rfl⟩
              have HC4 : Held (base ≤ (wr.alloc (.cells #[.int .u8 (Kit.mark k ((N k : Int) + (m : Int)))] 5)).heap.size) := ⟨Nat.le_trans HBw.out HI2.out.keep.size⟩
              go_wp2_with (first
                | (go_at_call 54; refine (HMk.out _).mono ?_; rintro e w2 ⟨rfl, rfl⟩)
                | ((at_builtin; go_loud (refine appT base rfl (.tmp 50) (.tmp 60) 23 5 (.int .u8 0) 1 1 rfl Tryd.underlying23 info_u8 rfl (by decide) (by decide) _ (N k + m) (mkr mkB k (N k + m)) rfl HI2.out.pair.own (fun _ => True) (some ⟨wr.heap.size, 0, none⟩) 1 1 (mkB k (N k + m)) rfl HRd.out (mkB_marks.one _ _) HC3.out HC4.out ?_)); (intro v2 w3 ho3 hg3 hat3); (have HI3 := Held.mk (HI2.out.next mkB_marks ho3 hg3 hat3)); (clear ho3 hg3 hat3)))
              go_roundw
              case rel => exact ⟨m + 1, by go_num, by omega, ⟨HI3.out⟩⟩
              case measure => simp [intOf]; omega
            · obtain rfl : m = 64 := by omega
              have HGal : Held ((wr.alloc (.cells #[.slice Ag (N k + 64) cg] 23)).ownsRow W0.heap.size 23 1 (.slice As k cs) k ((List.range k).map G)) := ⟨(HGI.out _ _ _ HI.out).alloc _⟩
              have HRd := Held.mk (rd_new wr [.slice Ag (N k + 64) cg] 1 23 rfl)
              have HC3 : Held (((k + 1) + (k + 1) / 4 + 192) * 24 ≤ 281474976710656) := ⟨by have := HK.out; omega⟩
              have HC4 : Held (W0.heap.size ≤ (wr.alloc (.cells #[.slice Ag (N k + 64) cg] 23)).heap.size) := ⟨by have h1 := HSz.out; have h2 := HI.out.keep.size; simp; omega⟩
              go_wp2_with ((at_builtin; go_loud (refine appS _ W0.heap.size rfl (.tmp 62) (.tmp 64) 61 23 (.slice none 0 0) 1 24 rfl Tryd.underlying61 info_rows rfl (by decide) (by decide) _ k ((List.range k).map G) rfl HGal.out (fun _ => True) (some ⟨wr.heap.size, 0, none⟩) 1 1 [.slice Ag (N k + 64) cg] rfl HRd.out (by simp [Value.oneCell']) HC3.out HC4.out ?_)); (intro v2 w3 ho3 hg3 hat3); (have HN3 := Held.mk (HIB.out.next (by decide) HF.out hlt2 HI.out ho3 (((Keep.refl _ _).alloc _).grown hg3 (fun b _ e => e)))); (clear ho3 hg3 hat3))
              go_roundw
              case rel => exact ⟨k + 1, _, by go_num, by omega, ⟨HN3.out⟩⟩
              case measure => simp [intOf]; omega
        · obtain rfl : K = k := by omega
          have HWB : ∃ WB, Held (InvB mkB base 5 23 1 K 64 V N w W0 WB K (.slice As K cs) G) ∧ Held (Below WB.heap.size WB wr) := ⟨wr, HIB, ⟨Below.refl _ _⟩⟩
          clear HIB
          obtain ⟨WB, HIB, HBe⟩ := HWB
          go_wp2_with fail
          go_loopw [9] (fun i wr => ∃ (k : Nat), i = .int .i64 k ∧ k ≤ K ∧ Held (Below WB.heap.size WB wr)) (fun i _ => K - (intOf i).toNat)
          case atStart => exact ⟨0, rfl, Nat.zero_le _, HBe⟩
          case round =>
            clear HBe
            obtain ⟨k, rfl, hk3, HBw⟩ := hrel
            by_cases hlt3 : k < K
            · obtain ⟨ad, rfl, hokb, hcc⟩ := HAt.out k hlt3
              have HPr := Held.mk (HIB.out.done k hlt3)
              obtain ⟨Ak, ck, ek, _⟩ := HPr.out.rd
              obtain ⟨Ag, cg, eG, _⟩ := own_slc HPr.out.own
              obtain ⟨g0, cap0, e0, _, _⟩ := HIB.out.gs.form (by omega)
              injection e0 with e1 _ e3
              subst e1
              have HCv : Held (∀ w', Below WB.heap.size WB w' → w'.cell? (ad.add k) = some (.slice Ak (N k) ck)) := ⟨fun w' hb => by
                rw [← ek]
                exact hcc w' (HIB.out.keep.below hb)⟩
              have HCg : Held (∀ w', Below WB.heap.size WB w' → w'.cell? ⟨g0, k, none⟩ = some (.slice Ag (N k + 64) cg)) := ⟨fun w' hb => by
                have h1 := (Keep.of_below hb (fun _ => False)).own HIB.out.gs (fun _ _ h => h)
                rw [h1.cellAt k (by omega), ← eG]
                simp [hlt3]⟩
              have HPg : Held (∀ m, m < N k + 64 → ∃ b, Ag = some ⟨b, 0, none⟩ ∧ ∀ w', Below WB.heap.size WB w' → w'.cell? ⟨b, m, none⟩ = some (.int .u8 (Kit.mark k m))) := ⟨fun m hm => by
                obtain ⟨b, cap, h1, h2⟩ := HPr.out.get mkB_marks m hm
                rw [eG] at h1
                injection h1 with h3
                refine ⟨b, h3, fun w' hb => ?_⟩
                have h5 := h2 0 (by omega)
                rw [Nat.mul_one, Nat.add_zero] at h5
                exact (Keep.of_below hb (fun _ => False)).cell h5 (fun h => h)⟩
              have HPv : Held (∀ m, m < N k → ∃ b, Ak = some ⟨b, 0, none⟩ ∧ ∀ w', Below WB.heap.size WB w' → w'.cell? ⟨b, m, none⟩ = some (.int .u8 (Kit.mark k m))) := ⟨fun m hm => by
                obtain ⟨b, cap, h1, h2⟩ := HPr.out.got mkB_marks m hm
                rw [ek] at h1
                injection h1 with h3
                refine ⟨b, h3, fun w' hb => ?_⟩
                have h5 := h2 0 (by omega)
                rw [Nat.mul_one, Nat.add_zero] at h5
                exact (Keep.of_below hb (fun _ => False)).cell h5 (fun h => h)⟩
              have hNk : (N k : Int) ≤ 1000000000000 := by have := HN.out k; omega
              have hcg := HCg.out _ HBw.out
              clear hcc ek eG hokb e3
              go_wp2_with fail
              clear hcg
              go_loopw [10] (fun i wr => ∃ (m : Nat), i = .int .i64 m ∧ m ≤ N k + 64 ∧ Held (Below WB.heap.size WB wr)) (fun i _ => N k + 64 - (intOf i).toNat)
              case atStart => exact ⟨0, rfl, by omega, HBw⟩
              case round =>
                clear HBw
                obtain ⟨m, rfl, hm, HBx⟩ := hrel
                have hcg := HCg.out _ HBx.out
                have hcv := HCv.out _ HBx.out
                by_cases hlm : m < N k + 64
                · obtain ⟨bg, rfl, hfg⟩ := HPg.out m hlm
                  have HMk : Held (∀ W, Calls Tryd.prog 54 #[.int .i64 k, .int .i64 m] W fun e w' => e = .returned (.int .u8 (Kit.mark k m)) ∧ W = w') := ⟨fun W => Kit.mark_any k _ W (by have := HK.out; omega) (by omega) (by omega)⟩
                  have g0 := hfg _ HBx.out
                  by_cases hin : m < N k
                  · obtain ⟨bv, rfl, hfv⟩ := HPv.out m hin
                    have v0 := hfv _ HBx.out
                    have hinI : (m : Int) < (N k : Int) := by omega
                    clear hfg hfv
                    generalize Kit.mark k (m : Int) = mv at *
                    go_wp2_with ((go_at_call 54; refine (HMk.out _).mono ?_; rintro e w2 ⟨rfl, rfl⟩))
                    skip
                    go_roundw
                    case rel => exact ⟨m + 1, by go_num, by omega, HBx⟩
                    case measure => simp [intOf]; omega
                  · have hinI : ¬ (m : Int) < (N k : Int) := by omega
                    clear hfg
                    generalize Kit.mark k (m : Int) = mv at *
                    go_wp2_with ((go_at_call 54; refine (HMk.out _).mono ?_; rintro e w2 ⟨rfl, rfl⟩))
                    skip
                    go_roundw
                    case rel => exact ⟨m + 1, by go_num, by omega, HBx⟩
                    case measure => simp [intOf]; omega
                · obtain rfl : m = N k + 64 := by omega
                  go_wp2_with fail
                  go_roundw
                  case rel => exact ⟨k + 1, by go_num, by omega, HBx⟩
                  case measure => simp [intOf]; omega
            · go_wp2_with fail
              go_ret
              exact ⟨rfl, HIB.out.keep.below HBw.out⟩
end AptBytes
end Go.Proofs.YthkhemcbkcoliaaDoor
