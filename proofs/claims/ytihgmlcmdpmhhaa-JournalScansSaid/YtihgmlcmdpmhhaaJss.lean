/- JournalScans: the walk. -/
import Derived.Test.YtihgmlcmdpmhhaaJsa
namespace Go.Proofs.Ytihgmlcmdpmhhaa
set_option linter.unusedVariables false
set_option linter.unusedSimpArgs false
namespace Jrn
open Go.RowKit Mem Apn Wire Aps AptBytes
theorem nums_append (k : IntKind) (xs ys : List Int) : nums k (xs ++ ys) = nums k xs ++ nums k ys := by simp [nums]
set_option maxHeartbeats 8000000 in
set_option maxRecDepth 200000 in
theorem jscans_any (ok : Nat → Prop) (A : Option Addr) (n c : Nat) (R : List (List Int)) (cut : Int) (w : World) (hr : RdR w ok A n R) (hc : n ≤ c) (hcut : I64 cut) (hn : n ≤ 9000000000000)
    (hb : ∀ r ∈ R, Byt r ∧ r.length ≤ 140737488351232) :
    Calls Try.prog 3 #[.slice A n c, .int .i64 cut] w fun e w' => e = .returned (.bool true) ∧ Below w.heap.size w w' := by
  have HR := Held.mk hr
  have HLn := Held.mk hr.len
  have HB := Held.mk hb
  have HCut := Held.mk hcut
  clear hr hb hcut
  go_enter Try.func3, Try.ntmps3
  go_wp2_with fail
  go_loop [7, 8] (fun a i => ∃ (k s : Nat), i = .int .i64 k ∧ a = .int .i64 s ∧ k ≤ n ∧ s ≤ 16777216 ∧ Held (s = tot (R.take k))) (fun _ i => n - (intOf i).toNat)
  case atStart => exact ⟨0, 0, rfl, rfl, Nat.zero_le _, by omega, ⟨by simp [tot]⟩⟩
  case round =>
    obtain ⟨k, s, rfl, rfl, hk, hs, HT⟩ := hrel
    by_cases hkn : k < n
    · have hkI : (k : Int) < (n : Int) := by omega
      obtain ⟨ad, a1, c1, rfl, hcl, hc1, -⟩ := HR.out.at_ hkn
      obtain ⟨l, hl⟩ : ∃ l, (R.getD k []).length = l := ⟨_, rfl⟩
      rw [hl] at hcl hc1
      have hT2 := Held.mk (tot_take R k (by rw [HLn.out]; exact hkn))
      rw [hl] at hT2
      have hlm : l ≤ 140737488351232 := by
        rw [← hl, List.getD_eq_getElem?_getD, List.getElem?_eq_getElem (by rw [HLn.out]; exact hkn)]
        exact (HB.out _ (List.getElem_mem _)).2
      clear hl
      by_cases h5 : l ≤ 5000
      · have hmin : min (l : Int) 5000 = (l : Int) := by omega
        by_cases hbig : 16777216 < s + 20 + l
        · have hbI : (16777216 : Int) < (s : Int) + 20 + (l : Int) := by omega
          go_wp2_with fail
          refine (works_any w).mono ?_
          rintro e w1 ⟨rfl, hb1⟩
          have HB1 := Held.mk hb1
          clear hb1
          go_wp2_with fail
          go_ret
          exact ⟨rfl, HB1.out⟩
        · have hbI : ¬ (16777216 : Int) < (s : Int) + 20 + (l : Int) := by omega
          go_wp2_with fail
          go_round
          case rel => exact ⟨k + 1, s + 20 + l, by go_num, by go_num, by omega, by omega, ⟨by rw [hT2.out, ← HT.out]; omega⟩⟩
          case measure => simp [intOf]; omega
      · have hmin : min (l : Int) 5000 = 5000 := by omega
        by_cases hbig : 16777216 < s + 20 + 5000
        · have hbI : (16777216 : Int) < (s : Int) + 20 + 5000 := by omega
          go_wp2_with fail
          refine (works_any w).mono ?_
          rintro e w1 ⟨rfl, hb1⟩
          have HB1 := Held.mk hb1
          clear hb1
          go_wp2_with fail
          go_ret
          exact ⟨rfl, HB1.out⟩
        · have hbI : ¬ (16777216 : Int) < (s : Int) + 20 + 5000 := by omega
          go_wp2_with fail
          go_round
          case rel => exact ⟨k + 1, s + 20 + 5000, by go_num, by go_num, by omega, by omega, ⟨by rw [hT2.out, ← HT.out]; omega⟩⟩
          case measure => simp [intOf]; omega
    · have hkI : ¬ (k : Int) < (n : Int) := by omega
      have HTot : Held (tot R ≤ 16777216) := ⟨by have := HT.out; rw [List.take_of_length_le (by rw [HLn.out]; omega)] at this; omega⟩
      have hn8 : n ≤ 838860 := by have := tot_len R; have := HTot.out; rw [HLn.out] at *; omega
      clear hs HT
      go_wp2_with fail
      go_loopw [5, 6, 9] (fun v5 v6 i wr => ∃ (k : Nat), i = .int .i64 k ∧ k ≤ n ∧ Held (OwnN wr w.heap.size 5 .u8 v5 (frs 0 ((R.take k).map sh))) ∧ Held (Sht w wr ok v6 R k) ∧ Held (Below w.heap.size w wr)) (fun _ _ i _ => n - (intOf i).toNat)
      case atStart => exact ⟨0, rfl, Nat.zero_le _, ⟨own_nil _ _ _ _⟩, ⟨⟨fun _ => .nilIface, own_nil _ _ _ _, fun j hj => absurd hj (by omega)⟩⟩, ⟨Below.refl _ _⟩⟩
      case round =>
        obtain ⟨k, rfl, hk, HO, HS, HBe⟩ := hrel
        by_cases hkn : k < n
        · have hkI : (k : Int) < (n : Int) := by omega
          obtain ⟨ad, a1, c1, rfl, hcl0, hc1, hrd⟩ := HR.out.at_ hkn
          have hcl := (Keep.of_below HBe.out (fun _ => False)).cell hcl0 (fun h => h)
          obtain ⟨l, hl⟩ : ∃ l, (R.getD k []).length = l := ⟨_, rfl⟩
          rw [hl] at hcl hc1 hrd
          have hBk : Byt (R.getD k []) := by
            rw [List.getD_eq_getElem?_getD, List.getElem?_eq_getElem (by rw [HLn.out]; exact hkn)]
            exact (HB.out _ (List.getElem_mem _)).1
          have hlm : l ≤ 140737488351232 := by
            rw [← hl, List.getD_eq_getElem?_getD, List.getElem?_eq_getElem (by rw [HLn.out]; exact hkn)]
            exact (HB.out _ (List.getElem_mem _)).2
          obtain ⟨rr, hre⟩ : ∃ rr, sh (R.getD k []) = rr := ⟨_, rfl⟩
          have HRe := Held.mk hre
          have HBr : Held (Byt rr) := ⟨by rw [← hre]; exact fun c hc => hBk c (List.mem_of_mem_take hc)⟩
          obtain ⟨fb, hfb⟩ : ∃ fb, frs 0 ((R.take k).map sh) = fb := ⟨_, rfl⟩
          have HFb := Held.mk hfb
          rw [hfb] at HO
          clear hfb
          obtain ⟨A5, c5, rfl, hc5⟩ := own_slc HO.out
          obtain ⟨V0, hV0, _⟩ := HS.out.ex
          obtain ⟨A6, c6, rfl, hc6⟩ := own_slc hV0
          by_cases h5 : 5000 < l
          · have h5I : (5000 : Int) < (l : Int) := by omega
            have hml : rr.length = 5000 := by rw [← hre, sh_length]; omega
            have hmc : 5000 ≤ c1 := by omega
            have hrr : RdN w ok .u8 a1 5000 rr := by
              rw [← hre]
              have h := RdV.front hrd (k := 5000) (by omega)
              unfold RdN
              unfold nums at h ⊢
              rw [← List.map_take] at h
              exact h
            have HRr0 := Held.mk hrr
            have hcut5 : ∀ W, (Instr.slice 23 (.slice a1 l c1) none (some (.int .i64 5000)) none).run Try.prog W = .ok (.slice a1 5000 c1) W := fun W => cutH (m := 5000) (by omega) W
            clear hre hl hBk hlm hcl0 hrd hc5 hc6 hV0
            have HFr := Held.mk (fun W (h : RdN W ok .u8 a1 5000 rr) => frame_in ok (k + 1) a1 5000 c1 rr W h (by omega) (by unfold U64; omega) HBr.out)
            rw [show ((k + 1 : Nat) : Int) = (k : Int) + 1 from by omega] at HFr
            have HRr : Held (RdN w ok .u8 a1 5000 rr) := ⟨hrr⟩
            have hbx : Below wr.heap.size wr (wr.alloc (.cells #[.slice a1 5000 c1] 23)) := (Below.refl _ _).alloc (Nat.le_refl _) _
            have HBx : Held (Below w.heap.size w (wr.alloc (.cells #[.slice a1 5000 c1] 23))) := ⟨HBe.out.trans (hbx.mono HBe.out.size)⟩
            have HRd := Held.mk (rd_new wr [.slice a1 5000 c1] 1 23 rfl)
            obtain ⟨V, hV1, hV2⟩ := HS.out.ex
            have HV1 : Held ((wr.alloc (.cells #[.slice a1 5000 c1] 23)).ownsW w.heap.size 23 1 (.slice A6 k c6) k ((List.range k).map V)) := ⟨hV1.alloc _⟩
            have HV2 := Held.mk hV2
            have Hal : Held (((k + 1) + (k + 1) / 4 + 192) * 24 ≤ 281474976710656) := ⟨by omega⟩
            have Hsz : Held (w.heap.size ≤ (wr.alloc (.cells #[.slice a1 5000 c1] 23)).heap.size) := ⟨HBx.out.size⟩
            have HO5 := Held.mk (HO.out.alloc (.cells #[.slice a1 5000 c1] 23))
            have HM : Held (rr.length = 5000) := ⟨hml⟩
            have HMc : Held (5000 ≤ c1) := ⟨hmc⟩
            clear hbx hV1 hV2 hrr hml hmc HO
            go_wp2_with ((at_builtin; (refine Mem.appS _ w.heap.size rfl (.tmp 56) (.tmp 58) 22 23 (.slice none 0 0) 1 24 rfl Try.underlying22 info_rows rfl (by decide) (by decide) _ k _ rfl HV1.out (fun _ => True) (some ⟨wr.heap.size, 0, none⟩) 1 1 [.slice a1 5000 c1] rfl HRd.out (by simp [Value.oneCell']) Hal.out Hsz.out ?_)); (intro v7 w2 ho2 hg2 hat2); (have HO2 := Held.mk ho2); (have HG2 := Held.mk (Keep.of_grown hg2)); (obtain ⟨A7, c7, rfl, -⟩ := own_slc ho2); (clear ho2 hg2 hat2))
            have hB2 : Below w.heap.size w w2 := ((Keep.of_below HBx.out (fun k => w.heap.size ≤ k)).then HG2.out (fun i _ e => own_ge HV1.out i e)).to_below (fun i hi h => by omega)
            have HO52 := Held.mk (HG2.out.own HO5.out (fun k hk e => Aps.own_type_ne HO5.out HV1.out (by decide) hk e))
            have HB2 := Held.mk hB2
            clear hB2
            go_wp2_with fail
            refine (HFr.out w2 (HRr.out.keep (Keep.of_below HB2.out (fun _ => False)) (fun _ _ h => h))).mono ?_
            rintro e w3 ⟨f, rfl, hof, hb3⟩
            obtain ⟨Af, cf, rfl, hcf, hrf⟩ := rd_own hof
            have HB3 := Held.mk hb3
            have HOf := Held.mk hof
            have HRf := Held.mk hrf
            have HO53 := Held.mk ((Keep.of_below hb3 (fun _ => False)).own HO52.out (fun _ _ h => h))
            have Hl5 : Held ((((fb).length + (frameL (k + 1) rr).length) + ((fb).length + (frameL (k + 1) rr).length) / 4 + 192) * 1 ≤ 281474976710656) := ⟨by
              have h1 := frs_tot R k HTot.out
              rw [HFb.out] at h1
              have h2 := frameL_le (k + 1) rr (by unfold U64; omega) (by have := HM.out; omega)
              have := HM.out
              omega⟩
            have Hsz3 : Held (w.heap.size ≤ w3.heap.size) := ⟨Nat.le_trans HB2.out.size hb3.size⟩
            clear hof hb3 hrf
            go_wp2_with ((at_builtin; (refine Mem.appS _ w.heap.size rfl (.tmp 70) (.tmp 71) 23 5 (.int .u8 0) 1 1 rfl Try.underlying23 info_u8 rfl (by decide) (by decide) _ fb.length _ rfl HO53.out _ Af (frameL (k + 1) rr).length cf (nums .u8 (frameL (k + 1) rr)) rfl HRf.out (nums_one _ _) Hl5.out Hsz3.out ?_)); (intro v8 w4 ho4 hg4 hat4); (have HO4 := Held.mk ho4); (have HG4 := Held.mk (Keep.of_grown hg4)); (clear ho4 hg4 hat4))
            go_roundw
            case rel =>
              refine ⟨k + 1, by go_num, by omega, ?_, ?_, ?_⟩
              · have e1 : (R.take (k + 1)).map sh = (R.take k).map sh ++ [rr] := by rw [take_getD R k [] (by rw [HLn.out]; exact hkn), List.map_append, List.map_singleton, HRe.out]
                have e2 : ((R.take k).map sh).length = k := by rw [List.length_map, List.length_take, HLn.out]; omega
                rw [e1, frs_snoc, e2, HFb.out]
                refine ⟨?_⟩
                have h := HO4.out
                unfold OwnN
                rw [nums_append]
                rw [List.length_append]
                exact h
              · refine ⟨⟨fun j => if j = k then .slice a1 5000 c1 else V j, ?_, ?_⟩⟩
                · have e1 : (List.range (k + 1)).map (fun j => if j = k then .slice a1 5000 c1 else V j) = (List.range k).map V ++ [.slice a1 5000 c1] := by
                    rw [List.range_succ, List.map_append, List.map_singleton, if_pos rfl]
                    congr 1
                    apply List.map_congr_left
                    intro j hj
                    rw [List.mem_range] at hj
                    rw [if_neg (by omega)]
                  rw [e1]
                  have h3 := (Keep.of_below HB3.out (fun _ => False)).own HO2.out (fun _ _ h => h)
                  exact HG4.out.own h3 (fun k hk e => Aps.own_type_ne h3 HO53.out (by decide) hk e)
                · intro j hj
                  by_cases hjk : j = k
                  · subst hjk
                    rw [HRe.out, HM.out]
                    exact ⟨a1, c1, by simp only [if_true], HMc.out, HRr0.out⟩
                  · simp only [if_neg hjk]
                    exact HV2.out j (by omega)
              · have h4 : Below w.heap.size w w3 := HB2.out.trans (HB3.out.mono HB2.out.size)
                exact ⟨((Keep.of_below h4 (fun k => w.heap.size ≤ k)).then HG4.out (fun i _ e => own_ge HO53.out i e)).to_below (fun i hi h => by omega)⟩
            case measure => simp [intOf]; omega
          · have h5I : ¬ (5000 : Int) < (l : Int) := by omega
            have hml : rr.length = l := by rw [← hre, sh_length]; omega
            have hmc : l ≤ c1 := hc1
            have hrr : RdN w ok .u8 a1 l rr := by
              rw [← hre]
              unfold sh
              rw [List.take_of_length_le (by omega)]
              exact hrd
            have HRr0 := Held.mk hrr
            have hl5 : l ≤ 5000 := by omega
            clear hre hl hBk hlm hcl0 hrd hc5 hc6 hV0
            have HFr := Held.mk (fun W (h : RdN W ok .u8 a1 l rr) => frame_in ok (k + 1) a1 l c1 rr W h (by omega) (by unfold U64; omega) HBr.out)
            rw [show ((k + 1 : Nat) : Int) = (k : Int) + 1 from by omega] at HFr
            have HRr : Held (RdN w ok .u8 a1 l rr) := ⟨hrr⟩
            have hbx : Below wr.heap.size wr (wr.alloc (.cells #[.slice a1 l c1] 23)) := (Below.refl _ _).alloc (Nat.le_refl _) _
            have HBx : Held (Below w.heap.size w (wr.alloc (.cells #[.slice a1 l c1] 23))) := ⟨HBe.out.trans (hbx.mono HBe.out.size)⟩
            have HRd := Held.mk (rd_new wr [.slice a1 l c1] 1 23 rfl)
            obtain ⟨V, hV1, hV2⟩ := HS.out.ex
            have HV1 : Held ((wr.alloc (.cells #[.slice a1 l c1] 23)).ownsW w.heap.size 23 1 (.slice A6 k c6) k ((List.range k).map V)) := ⟨hV1.alloc _⟩
            have HV2 := Held.mk hV2
            have Hal : Held (((k + 1) + (k + 1) / 4 + 192) * 24 ≤ 281474976710656) := ⟨by omega⟩
            have Hsz : Held (w.heap.size ≤ (wr.alloc (.cells #[.slice a1 l c1] 23)).heap.size) := ⟨HBx.out.size⟩
            have HO5 := Held.mk (HO.out.alloc (.cells #[.slice a1 l c1] 23))
            have HM : Held (rr.length = l) := ⟨hml⟩
            have HMc : Held (l ≤ c1) := ⟨hmc⟩
            clear hbx hV1 hV2 hrr hml hmc HO
            go_wp2_with ((at_builtin; (refine Mem.appS _ w.heap.size rfl (.tmp 56) (.tmp 58) 22 23 (.slice none 0 0) 1 24 rfl Try.underlying22 info_rows rfl (by decide) (by decide) _ k _ rfl HV1.out (fun _ => True) (some ⟨wr.heap.size, 0, none⟩) 1 1 [.slice a1 l c1] rfl HRd.out (by simp [Value.oneCell']) Hal.out Hsz.out ?_)); (intro v7 w2 ho2 hg2 hat2); (have HO2 := Held.mk ho2); (have HG2 := Held.mk (Keep.of_grown hg2)); (obtain ⟨A7, c7, rfl, -⟩ := own_slc ho2); (clear ho2 hg2 hat2))
            have hB2 : Below w.heap.size w w2 := ((Keep.of_below HBx.out (fun k => w.heap.size ≤ k)).then HG2.out (fun i _ e => own_ge HV1.out i e)).to_below (fun i hi h => by omega)
            have HO52 := Held.mk (HG2.out.own HO5.out (fun k hk e => Aps.own_type_ne HO5.out HV1.out (by decide) hk e))
            have HB2 := Held.mk hB2
            clear hB2
            go_wp2_with fail
            refine (HFr.out w2 (HRr.out.keep (Keep.of_below HB2.out (fun _ => False)) (fun _ _ h => h))).mono ?_
            rintro e w3 ⟨f, rfl, hof, hb3⟩
            obtain ⟨Af, cf, rfl, hcf, hrf⟩ := rd_own hof
            have HB3 := Held.mk hb3
            have HOf := Held.mk hof
            have HRf := Held.mk hrf
            have HO53 := Held.mk ((Keep.of_below hb3 (fun _ => False)).own HO52.out (fun _ _ h => h))
            have Hl5 : Held ((((fb).length + (frameL (k + 1) rr).length) + ((fb).length + (frameL (k + 1) rr).length) / 4 + 192) * 1 ≤ 281474976710656) := ⟨by
              have h1 := frs_tot R k HTot.out
              rw [HFb.out] at h1
              have h2 := frameL_le (k + 1) rr (by unfold U64; omega) (by have := HM.out; omega)
              have := HM.out
              omega⟩
            have Hsz3 : Held (w.heap.size ≤ w3.heap.size) := ⟨Nat.le_trans HB2.out.size hb3.size⟩
            clear hof hb3 hrf
            go_wp2_with ((at_builtin; (refine Mem.appS _ w.heap.size rfl (.tmp 70) (.tmp 71) 23 5 (.int .u8 0) 1 1 rfl Try.underlying23 info_u8 rfl (by decide) (by decide) _ fb.length _ rfl HO53.out _ Af (frameL (k + 1) rr).length cf (nums .u8 (frameL (k + 1) rr)) rfl HRf.out (nums_one _ _) Hl5.out Hsz3.out ?_)); (intro v8 w4 ho4 hg4 hat4); (have HO4 := Held.mk ho4); (have HG4 := Held.mk (Keep.of_grown hg4)); (clear ho4 hg4 hat4))
            go_roundw
            case rel =>
              refine ⟨k + 1, by go_num, by omega, ?_, ?_, ?_⟩
              · have e1 : (R.take (k + 1)).map sh = (R.take k).map sh ++ [rr] := by rw [take_getD R k [] (by rw [HLn.out]; exact hkn), List.map_append, List.map_singleton, HRe.out]
                have e2 : ((R.take k).map sh).length = k := by rw [List.length_map, List.length_take, HLn.out]; omega
                rw [e1, frs_snoc, e2, HFb.out]
                refine ⟨?_⟩
                have h := HO4.out
                unfold OwnN
                rw [nums_append]
                rw [List.length_append]
                exact h
              · refine ⟨⟨fun j => if j = k then .slice a1 l c1 else V j, ?_, ?_⟩⟩
                · have e1 : (List.range (k + 1)).map (fun j => if j = k then .slice a1 l c1 else V j) = (List.range k).map V ++ [.slice a1 l c1] := by
                    rw [List.range_succ, List.map_append, List.map_singleton, if_pos rfl]
                    congr 1
                    apply List.map_congr_left
                    intro j hj
                    rw [List.mem_range] at hj
                    rw [if_neg (by omega)]
                  rw [e1]
                  have h3 := (Keep.of_below HB3.out (fun _ => False)).own HO2.out (fun _ _ h => h)
                  exact HG4.out.own h3 (fun k hk e => Aps.own_type_ne h3 HO53.out (by decide) hk e)
                · intro j hj
                  by_cases hjk : j = k
                  · subst hjk
                    rw [HRe.out, HM.out]
                    exact ⟨a1, c1, by simp only [if_true], HMc.out, HRr0.out⟩
                  · simp only [if_neg hjk]
                    exact HV2.out j (by omega)
              · have h4 : Below w.heap.size w w3 := HB2.out.trans (HB3.out.mono HB2.out.size)
                exact ⟨((Keep.of_below h4 (fun k => w.heap.size ≤ k)).then HG4.out (fun i _ e => own_ge HO53.out i e)).to_below (fun i hi h => by omega)⟩
            case measure => simp [intOf]; omega
        · have hkI : ¬ (k : Int) < (n : Int) := by omega
          obtain rfl : k = n := by omega
          obtain ⟨S, hS⟩ : ∃ S, R.map sh = S := ⟨_, rfl⟩
          have hRn : (R.take k).map sh = S := by rw [List.take_of_length_le (by rw [HLn.out]; omega), hS]
          have HSl : Held (S.length = k) := ⟨by rw [← hS, List.length_map, HLn.out]⟩
          have HRs : Held (Recs S) := ⟨by rw [← hS]; exact recs_sh R (fun r h => (HB.out r h).1)⟩
          have hlen := frs_tot R k HTot.out
          rw [hRn] at HO hlen
          have hscan := scan_frs S HRs.out (by rw [HSl.out]; omega)
          have htake := fun c => scan_take S c HRs.out (by rw [HSl.out]; omega)
          have hbyt : Byt (frs 0 S) := Byt.frs HRs.out (by rw [HSl.out]; omega)
          obtain ⟨fb, hfb⟩ : ∃ fb, frs 0 S = fb := ⟨_, rfl⟩
          rw [hfb] at HO hlen hscan htake hbyt
          have HByt := Held.mk hbyt
          have HTk := Held.mk htake
          obtain ⟨A5, c5, rfl, hc5, hr5⟩ := RdN.of_own HO.out
          have hblk5 : ∀ k, (Value.slice A5 fb.length c5).ownBlock = some k → w.heap.size ≤ k ∧ k < wr.heap.size := fun k hk => ⟨own_ge HO.out k hk, own_lt HO.out k hk⟩
          obtain ⟨N, hN⟩ : ∃ N, fb.length = N := ⟨_, rfl⟩
          have HFb := Held.mk hN
          have HRd5 : Held (RdN wr (fun k => k < wr.heap.size) .u8 A5 N fb) := ⟨by rw [← hN]; exact RdV.mono hr5 (fun k hk => (hblk5 k hk).2)⟩
          rw [hN] at hlen hc5 hscan HO ⊢
          have HSc1 := Held.mk (scan_any _ A5 N c5 fb wr HRd5.out hc5 (by omega) hbyt)
          rw [hscan] at HSc1
          simp only at HSc1
          rw [show (Jr.w Er.ok).enc = Value.nilIface from rfl] at HSc1
          obtain ⟨V, hV1, hV2⟩ := HS.out.ex
          obtain ⟨A6, c6, rfl, hc6', hr6⟩ := RdV.of_own hV1
          have HSh : Held (RdR wr (fun _ => True) A6 k S) := ⟨⟨HSl.out, V, RdV.mono hr6 (fun _ _ => trivial), fun j hj => by
            obtain ⟨a, c, e, h1, h2⟩ := hV2 j hj
            have e2 : S.getD j [] = sh (R.getD j []) := by
              rw [← hS, List.getD_eq_getElem?_getD, List.getD_eq_getElem?_getD, List.getElem?_map, List.getElem?_eq_getElem (by rw [HLn.out]; omega)]; rfl
            rw [e2]
            exact ⟨a, c, e, h1, RdV.mono (h2.keep (Keep.of_below HBe.out (fun _ => False)) (fun _ _ h => h)) (fun _ _ => trivial)⟩⟩⟩
          have hrl : ∀ r ∈ S, r.length ≤ 9223372036854775807 := fun r h => by have := (HRs.out r h).1; omega
          have Hrl := Held.mk hrl
          have hkk : ((N : Int) != N) = false := by simp
          clear hS hRn hscan htake hbyt hfb hN hr5 hblk5 hV1 hV2 hr6 hrl HS HO HTot
          go_wp2_with fail
          refine HSc1.out.mono ?_
          rintro e w1 ⟨v1, rfl, hR1, hb1⟩
          have HB1 : Held (Below wr.heap.size wr w1) := ⟨hb1⟩
          obtain ⟨A1, d1, rfl, hd1, r1⟩ := hR1.rd
          rw [HSl.out] at r1 ⊢
          have HSm := Held.mk (samerec_any _ _ A1 A6 k k d1 c6 S S w1 r1 (HSh.out.keep (Keep.of_below hb1 (fun _ => False)) (fun _ _ h => h)) (by omega) (by omega) Hrl.out Hrl.out)
          rw [decide_eq_true rfl] at HSm
          clear hR1 hb1 hd1 r1 HSc1
          go_wp2_with fail
          refine HSm.out.mono ?_
          rintro e w2 ⟨rfl, m1, rfl⟩
          have HB2 : Held (Below wr.heap.size wr (w1.drewN m1)) := ⟨below_drewN HB1.out _⟩
          clear HSm HB1
          generalize w1.drewN m1 = w2 at *
          obtain ⟨pn, hpn⟩ : ∃ pn : Nat, (pn : Int) = cut % ((N : Int) + 1) := ⟨(cut % ((N : Int) + 1)).toNat, by have := Int.emod_nonneg cut (show (N : Int) + 1 ≠ 0 by omega); omega⟩
          have hpl : pn ≤ N := by have := Int.emod_lt_of_pos cut (show 0 < (N : Int) + 1 by omega); omega
          have HPk := Held.mk (Wire.pick_any cut ((N : Int) + 1) w2 HCut.out (by omega) (by omega))
          rw [← hpn] at HPk
          have hcp : ∀ W, (Instr.slice 23 (.slice A5 N c5) none (some (.int .i64 (pn : Int))) none).run Try.prog W = .ok (.slice A5 pn c5) W := fun W => cutH (by omega) W
          obtain ⟨j, je, hj1, hj2, hj3, hj4, -⟩ := HTk.out pn
          have hp5 : (fb.take pn).length = pn := by rw [List.length_take, HFb.out]; omega
          rw [hp5] at hj4
          have HRp : Held (RdN wr (fun k => k < wr.heap.size) .u8 A5 pn (fb.take pn)) := ⟨by
            have h := RdV.front HRd5.out (k := pn) hpl
            unfold RdN
            unfold nums at h ⊢
            rw [Nat.mul_one, ← List.map_take] at h
            exact h⟩
          obtain ⟨part, hpart⟩ : ∃ part, fb.take pn = part := ⟨_, rfl⟩
          rw [hpart] at HRp hj3 hp5
          obtain ⟨fl, hfl⟩ : ∃ fl, (frs 0 (S.take j)).length = fl := ⟨_, rfl⟩
          rw [hfl] at hj2 hj3 hj4
          have hpl2 : Byt part := by rw [← hpart]; exact HByt.out.take _
          have HPb := Held.mk hpl2
          have HPs := Held.mk hj3
          have HPl := Held.mk hp5
          have hjl : (S.take j).length = j := by rw [List.length_take, HSl.out]; rw [HSl.out] at hj1; omega
          have HJl := Held.mk hjl
          have HSc2 := Held.mk (scan_any _ A5 pn c5 part w2 (HRp.out.keep (Keep.of_below HB2.out (fun _ => False)) (fun _ _ h => h)) (by omega) (by omega) hpl2)
          rw [hj3] at HSc2
          simp only at HSc2
          have hff : ((fl : Int) == fl) = true := by simp
          have hfp : (fl : Int) ≤ (pn : Int) := by omega
          have hjk : j ≤ k := by rw [HSl.out] at hj1; exact hj1
          have hcf : ∀ W, (Instr.slice 23 (.slice A5 pn c5) none (some (.int .i64 (fl : Int))) none).run Try.prog W = .ok (.slice A5 fl c5) W := fun W => cutH (by omega) W
          have HRf : Held (RdN wr (fun k => k < wr.heap.size) .u8 A5 fl (part.take fl)) := ⟨by
            have h := RdV.front HRp.out (k := fl) (by omega)
            unfold RdN
            unfold nums at h ⊢
            rw [Nat.mul_one, ← List.map_take] at h
            exact h⟩
          have HOi := Held.mk (openI_new part (S.take j) fl (.w je) hj3 (by omega) (by omega))
          have HOs : Held (openS (newS part) = (openI (newS part), true)) := ⟨openS_idle rfl rfl⟩
          have hpl3 : (part.take fl).length = fl := by rw [List.length_take, hp5]; omega
          have HPf := Held.mk hpl3
          clear hpn hj1 hj3 hp5 hpart hfl hpl2 hjl HTk HRd5 hpl3
          by_cases hje : je = .ok
          · have hfe : fl = pn := hj4.1 hje
            have hfi : ((fl : Int) == pn) = true := by rw [hfe]; simp
            rw [hje, show (Jr.w Er.ok).enc = Value.nilIface from rfl] at HSc2
            clear hj4 hje hfe
            go_wp2_with fail
            refine HPk.out.mono ?_
            rintro e wx ⟨rfl, rfl⟩
            go_wp2_with fail
            refine HSc2.out.mono ?_
            rintro e w3 ⟨v3, rfl, hR3, hb3⟩
            have HB3 : Held (Below wr.heap.size wr w3) := ⟨HB2.out.trans (hb3.mono HB2.out.size)⟩
            have HR3 := Held.mk hR3
            obtain ⟨A3, d3, rfl, hd3, r3⟩ := hR3.rd
            rw [HJl.out] at r3 HR3 ⊢
            have HBg := Held.mk (begins_any _ _ A3 A6 j k d3 c6 0 (S.take j) S w3 r3 (HSh.out.keep (Keep.of_below HB3.out (fun _ => False)) (fun _ _ h => h)) hc6' (by omega) Hrl.out hjk (Nat.zero_le _) rfl)
            rw [show ((0 : Nat) : Int) = 0 from rfl] at HBg
            clear hR3 hb3 hd3 r3 HSc2 HPk
            go_wp2_with fail
            refine HBg.out.mono ?_
            rintro e w4 ⟨rfl, m4, rfl⟩
            have HB4 : Held (Below wr.heap.size wr (w3.drewN m4)) := ⟨below_drewN HB3.out _⟩
            have HR4 := Held.mk (HR3.out.below (below_drewN (Below.refl _ _) m4))
            clear HBg HB3 HR3 HB2
            generalize w3.drewN m4 = w4 at *
            have HNd := Held.mk (dn_new _ A5 pn c5 part w4 (HRp.out.keep (Keep.of_below HB4.out (fun _ => False)) (fun _ _ h => h)) (by omega))
            go_wp2_with fail
            refine HNd.out.mono ?_
            rintro e w5 ⟨P, rfl, hD5, hb5⟩
            have HK5 : Held (From w4.heap.size w4 w5) := ⟨From.of_below hb5⟩
            have HOp := Held.mk (dn_open w4.heap.size P (newS part) w5 hD5 ⟨Nat.le_refl _, by simp only [newS]; rw [HPl.out]; omega, by simp only [newS]; rw [HPl.out]; omega, by simp [newS], by simp [newS], by simp [newS]⟩ (by simp only [newS]; rw [HPl.out]; omega) (by simp [newS]) HPb.out (by rw [HOs.out]) hb5.size)
            rw [HOs.out, show (newS part).B = part from rfl, HPs.out] at HOp
            clear hD5 hb5 HNd
            go_wp2_with fail
            refine HOp.out.mono ?_
            rintro e w6 ⟨J, v6, rfl, hR6, hJ6, hK6⟩
            have HK6 : Held (From w4.heap.size w4 w6) := ⟨HK5.out.trans hK6⟩
            have HD6 := Held.mk hJ6.dn
            have HR46 := Held.mk (HR4.out.keep HK6.out (fun k h1 h2 h3 => by omega))
            obtain ⟨A8, d8, rfl, hd8, r8⟩ := hR6.rd
            obtain ⟨A9, d9, e9, hd9, r9⟩ := HR46.out.rd
            simp only [Value.slice.injEq] at e9
            obtain ⟨rfl, -, rfl⟩ := e9
            rw [HJl.out] at r8 r9 ⊢
            have hrl2 : ∀ r ∈ S.take j, r.length ≤ 9223372036854775807 := fun r h => Hrl.out r (List.mem_of_mem_take h)
            have HSm2 := Held.mk (samerec_any _ _ A8 A3 j j d8 d3 (S.take j) (S.take j) w6 r8 r9 (by omega) (by omega) hrl2 hrl2)
            rw [decide_eq_true rfl] at HSm2
            clear hR6 hJ6 hK6 hd8 r8 hd9 r9 hrl2 HOp HK5 HR46 HR4
            go_wp2_with fail
            refine HSm2.out.mono ?_
            rintro e w7 ⟨rfl, m7, rfl⟩
            have hb7 : Below w6.heap.size w6 (w6.drewN m7) := below_drewN (Below.refl _ _) m7
            have HK7 : Held (From w4.heap.size w4 (w6.drewN m7)) := ⟨HK6.out.trans (Keep.of_below hb7 _)⟩
            have HD7 := Held.mk (HD6.out.below hb7)
            clear hb7 HSm2 HK6 HD6
            generalize w6.drewN m7 = w7 at *
            obtain ⟨F, hDk, hF⟩ := HD7.out.ex
            have HBy := Held.mk (bytes_any F P _ w7 hDk HOi.out.2.2.2)
            rw [HOi.out.2.2.1, HOi.out.1] at HBy
            simp only [Bool.false_eq_true, if_false] at HBy
            clear hDk hF
            go_wp2_with fail
            refine HBy.out.mono ?_
            rintro e w8 ⟨v8, rfl, ⟨ho8, A8', rfl⟩, hb8⟩
            have HK8 : Held (From w4.heap.size w4 w8) := ⟨HK7.out.trans (Keep.of_below hb8 _)⟩
            have HD8 := Held.mk (HD7.out.below hb8)
            have HO8 := Held.mk ho8
            obtain ⟨A8'', c8, e8, hc8, r8⟩ := RdN.of_own ho8
            simp only [Value.slice.injEq] at e8
            obtain ⟨rfl, -, rfl⟩ := e8
            rw [HPf.out] at r8 HO8 ⊢
            have HSb := Held.mk (Kit.same_any _ _ A8' A5 fl fl fl c5 (part.take fl) (part.take fl) w8 r8 (HRf.out.keep ((Keep.of_below HB4.out (fun k => w4.heap.size ≤ k)).trans HK8.out) (fun k h1 h2 => by have := HB4.out.size; omega)) (by omega) (by omega))
            rw [decide_eq_true rfl] at HSb
            clear ho8 hb8 hc8 r8 HBy HK7 HD7
            go_wp2_with fail
            refine HSb.out.mono ?_
            rintro e w9 ⟨rfl, m9, rfl⟩
            have hb9 : Below w8.heap.size w8 (w8.drewN m9) := below_drewN (Below.refl _ _) m9
            have HK9 : Held (From w4.heap.size w4 (w8.drewN m9)) := ⟨HK8.out.trans (Keep.of_below hb9 _)⟩
            have HD9 := Held.mk (HD8.out.below hb9)
            have HO9 := Held.mk ((Keep.of_below hb9 (fun _ => False)).own HO8.out (fun _ _ h => h))
            clear hb9 HSb HK8 HD8 HO8
            generalize w8.drewN m9 = w9 at *
            obtain ⟨F, hDk, hF⟩ := HD9.out.ex
            have HDu := Held.mk (durable_any F P _ w9 hDk HOi.out.2.2.2)
            rw [HOi.out.2.1] at HDu
            clear hDk hF
            go_wp2_with fail
            refine HDu.out.mono ?_
            rintro e wa ⟨va, rfl, ⟨hoa, Aa, rfl⟩, hba⟩
            have HKa : Held (From w4.heap.size w4 wa) := ⟨HK9.out.trans (Keep.of_below hba _)⟩
            obtain ⟨Aa', ca, ea, hca, ra⟩ := RdN.of_own hoa
            simp only [Value.slice.injEq] at ea
            obtain ⟨rfl, -, rfl⟩ := ea
            have hoa2 := (Keep.of_below hba (fun _ => False)).own HO9.out (fun _ _ h => h)
            obtain ⟨A8x, c8x, e8x, hc8x, r8x⟩ := RdV.of_own hoa2
            simp only [Value.slice.injEq] at e8x
            obtain ⟨rfl, -, rfl⟩ := e8x
            rw [HPf.out] at ra r8x ⊢
            have HSb2 := Held.mk (Kit.same_any _ _ Aa A8' fl fl fl fl (part.take fl) (part.take fl) wa ra r8x (by omega) (by omega))
            rw [decide_eq_true rfl] at HSb2
            clear hoa hba hca ra hoa2 hc8x r8x HDu HK9 HD9 HO9
            go_wp2_with fail
            refine HSb2.out.mono ?_
            rintro e wb ⟨rfl, mb, rfl⟩
            go_wp2_with fail
            refine (works_any _).mono ?_
            rintro e wc ⟨rfl, hbc⟩
            have hKc : From w4.heap.size w4 wc := HKa.out.trans (Keep.of_below ((below_drewN (Below.refl _ _) mb).trans hbc) _)
            have HKc := Held.mk hKc
            clear hbc hKc
            go_wp2_with fail
            go_ret
            have s1 := HBe.out.size
            have s2 := HB4.out.size
            exact ⟨rfl, ((Keep.of_below (HBe.out.trans (HB4.out.mono s1)) (fun k => w4.heap.size ≤ k)).trans HKc.out).to_below (fun i hi h => by omega)⟩
          · have hfe : ¬ fl = pn := fun h => hje (hj4.2 h)
            have hfi : ((fl : Int) == pn) = false := by rw [beq_eq_false_iff_ne]; omega
            obtain ⟨T, v, hec⟩ : ∃ T v, (Jr.w je).enc = .iface T v := by
              cases je with
              | ok => exact absurd rfl hje
              | no j => exact ⟨_, _, rfl⟩
              | ref s j => exact ⟨_, _, rfl⟩
            rw [hec] at HSc2
            clear hj4 hje hfe hec
            go_wp2_with fail
            refine HPk.out.mono ?_
            rintro e wx ⟨rfl, rfl⟩
            go_wp2_with fail
            refine HSc2.out.mono ?_
            rintro e w3 ⟨v3, rfl, hR3, hb3⟩
            have HB3 : Held (Below wr.heap.size wr w3) := ⟨HB2.out.trans (hb3.mono HB2.out.size)⟩
            have HR3 := Held.mk hR3
            obtain ⟨A3, d3, rfl, hd3, r3⟩ := hR3.rd
            rw [HJl.out] at r3 HR3 ⊢
            have HBg := Held.mk (begins_any _ _ A3 A6 j k d3 c6 0 (S.take j) S w3 r3 (HSh.out.keep (Keep.of_below HB3.out (fun _ => False)) (fun _ _ h => h)) hc6' (by omega) Hrl.out hjk (Nat.zero_le _) rfl)
            rw [show ((0 : Nat) : Int) = 0 from rfl] at HBg
            clear hR3 hb3 hd3 r3 HSc2 HPk
            go_wp2_with fail
            refine HBg.out.mono ?_
            rintro e w4 ⟨rfl, m4, rfl⟩
            have HB4 : Held (Below wr.heap.size wr (w3.drewN m4)) := ⟨below_drewN HB3.out _⟩
            have HR4 := Held.mk (HR3.out.below (below_drewN (Below.refl _ _) m4))
            clear HBg HB3 HR3 HB2
            generalize w3.drewN m4 = w4 at *
            have HNd := Held.mk (dn_new _ A5 pn c5 part w4 (HRp.out.keep (Keep.of_below HB4.out (fun _ => False)) (fun _ _ h => h)) (by omega))
            go_wp2_with fail
            refine HNd.out.mono ?_
            rintro e w5 ⟨P, rfl, hD5, hb5⟩
            have HK5 : Held (From w4.heap.size w4 w5) := ⟨From.of_below hb5⟩
            have HOp := Held.mk (dn_open w4.heap.size P (newS part) w5 hD5 ⟨Nat.le_refl _, by simp only [newS]; rw [HPl.out]; omega, by simp only [newS]; rw [HPl.out]; omega, by simp [newS], by simp [newS], by simp [newS]⟩ (by simp only [newS]; rw [HPl.out]; omega) (by simp [newS]) HPb.out (by rw [HOs.out]) hb5.size)
            rw [HOs.out, show (newS part).B = part from rfl, HPs.out] at HOp
            clear hD5 hb5 HNd
            go_wp2_with fail
            refine HOp.out.mono ?_
            rintro e w6 ⟨J, v6, rfl, hR6, hJ6, hK6⟩
            have HK6 : Held (From w4.heap.size w4 w6) := ⟨HK5.out.trans hK6⟩
            have HD6 := Held.mk hJ6.dn
            have HR46 := Held.mk (HR4.out.keep HK6.out (fun k h1 h2 h3 => by omega))
            obtain ⟨A8, d8, rfl, hd8, r8⟩ := hR6.rd
            obtain ⟨A9, d9, e9, hd9, r9⟩ := HR46.out.rd
            simp only [Value.slice.injEq] at e9
            obtain ⟨rfl, -, rfl⟩ := e9
            rw [HJl.out] at r8 r9 ⊢
            have hrl2 : ∀ r ∈ S.take j, r.length ≤ 9223372036854775807 := fun r h => Hrl.out r (List.mem_of_mem_take h)
            have HSm2 := Held.mk (samerec_any _ _ A8 A3 j j d8 d3 (S.take j) (S.take j) w6 r8 r9 (by omega) (by omega) hrl2 hrl2)
            rw [decide_eq_true rfl] at HSm2
            clear hR6 hJ6 hK6 hd8 r8 hd9 r9 hrl2 HOp HK5 HR46 HR4
            go_wp2_with fail
            refine HSm2.out.mono ?_
            rintro e w7 ⟨rfl, m7, rfl⟩
            have hb7 : Below w6.heap.size w6 (w6.drewN m7) := below_drewN (Below.refl _ _) m7
            have HK7 : Held (From w4.heap.size w4 (w6.drewN m7)) := ⟨HK6.out.trans (Keep.of_below hb7 _)⟩
            have HD7 := Held.mk (HD6.out.below hb7)
            clear hb7 HSm2 HK6 HD6
            generalize w6.drewN m7 = w7 at *
            obtain ⟨F, hDk, hF⟩ := HD7.out.ex
            have HBy := Held.mk (bytes_any F P _ w7 hDk HOi.out.2.2.2)
            rw [HOi.out.2.2.1, HOi.out.1] at HBy
            simp only [Bool.false_eq_true, if_false] at HBy
            clear hDk hF
            go_wp2_with fail
            refine HBy.out.mono ?_
            rintro e w8 ⟨v8, rfl, ⟨ho8, A8', rfl⟩, hb8⟩
            have HK8 : Held (From w4.heap.size w4 w8) := ⟨HK7.out.trans (Keep.of_below hb8 _)⟩
            have HD8 := Held.mk (HD7.out.below hb8)
            have HO8 := Held.mk ho8
            obtain ⟨A8'', c8, e8, hc8, r8⟩ := RdN.of_own ho8
            simp only [Value.slice.injEq] at e8
            obtain ⟨rfl, -, rfl⟩ := e8
            rw [HPf.out] at r8 HO8 ⊢
            have HSb := Held.mk (Kit.same_any _ _ A8' A5 fl fl fl c5 (part.take fl) (part.take fl) w8 r8 (HRf.out.keep ((Keep.of_below HB4.out (fun k => w4.heap.size ≤ k)).trans HK8.out) (fun k h1 h2 => by have := HB4.out.size; omega)) (by omega) (by omega))
            rw [decide_eq_true rfl] at HSb
            clear ho8 hb8 hc8 r8 HBy HK7 HD7
            go_wp2_with fail
            refine HSb.out.mono ?_
            rintro e w9 ⟨rfl, m9, rfl⟩
            have hb9 : Below w8.heap.size w8 (w8.drewN m9) := below_drewN (Below.refl _ _) m9
            have HK9 : Held (From w4.heap.size w4 (w8.drewN m9)) := ⟨HK8.out.trans (Keep.of_below hb9 _)⟩
            have HD9 := Held.mk (HD8.out.below hb9)
            have HO9 := Held.mk ((Keep.of_below hb9 (fun _ => False)).own HO8.out (fun _ _ h => h))
            clear hb9 HSb HK8 HD8 HO8
            generalize w8.drewN m9 = w9 at *
            obtain ⟨F, hDk, hF⟩ := HD9.out.ex
            have HDu := Held.mk (durable_any F P _ w9 hDk HOi.out.2.2.2)
            rw [HOi.out.2.1] at HDu
            clear hDk hF
            go_wp2_with fail
            refine HDu.out.mono ?_
            rintro e wa ⟨va, rfl, ⟨hoa, Aa, rfl⟩, hba⟩
            have HKa : Held (From w4.heap.size w4 wa) := ⟨HK9.out.trans (Keep.of_below hba _)⟩
            obtain ⟨Aa', ca, ea, hca, ra⟩ := RdN.of_own hoa
            simp only [Value.slice.injEq] at ea
            obtain ⟨rfl, -, rfl⟩ := ea
            have hoa2 := (Keep.of_below hba (fun _ => False)).own HO9.out (fun _ _ h => h)
            obtain ⟨A8x, c8x, e8x, hc8x, r8x⟩ := RdV.of_own hoa2
            simp only [Value.slice.injEq] at e8x
            obtain ⟨rfl, -, rfl⟩ := e8x
            rw [HPf.out] at ra r8x ⊢
            have HSb2 := Held.mk (Kit.same_any _ _ Aa A8' fl fl fl fl (part.take fl) (part.take fl) wa ra r8x (by omega) (by omega))
            rw [decide_eq_true rfl] at HSb2
            clear hoa hba hca ra hoa2 hc8x r8x HDu HK9 HD9 HO9
            go_wp2_with fail
            refine HSb2.out.mono ?_
            rintro e wb ⟨rfl, mb, rfl⟩
            go_wp2_with fail
            refine (works_any _).mono ?_
            rintro e wc ⟨rfl, hbc⟩
            have hKc : From w4.heap.size w4 wc := HKa.out.trans (Keep.of_below ((below_drewN (Below.refl _ _) mb).trans hbc) _)
            have HKc := Held.mk hKc
            clear hbc hKc
            go_wp2_with fail
            go_ret
            have s1 := HBe.out.size
            have s2 := HB4.out.size
            exact ⟨rfl, ((Keep.of_below (HBe.out.trans (HB4.out.mono s1)) (fun k => w4.heap.size ≤ k)).trans HKc.out).to_below (fun i hi h => by omega)⟩
end Jrn
end Go.Proofs.Ytihgmlcmdpmhhaa
