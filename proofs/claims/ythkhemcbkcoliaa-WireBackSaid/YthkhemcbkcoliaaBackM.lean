/- WireBack: what a row of calls writes, the same row reads; then the bytes are at their end. -/
import Derived.Test.YthkhemcbkcoliaaBackC
namespace Go.Proofs.Ythkhemcbkcoliaa
set_option linter.unusedVariables false
set_option linter.unusedSimpArgs false
namespace Wire
open Go.RowKit Mem Kit Go.Proofs.YthkhemcbkcoliaaW.PrintLast
set_option maxHeartbeats 4000000 in
set_option maxRecDepth 1000000 in
theorem back_any (A : Option Addr) (n c : Nat) (ps : List Put) (w : World) (hn : ps.length = n) (hr : RdP w (fun k => k < w.heap.size) A ps) (hg : ∀ p ∈ ps, p.Good) (hl : n * 40 ≤ 140737488351232) :
    Calls Try.prog 5 #[.slice A n c] w fun e w' => e = .returned (.bool true) ∧ Below w.heap.size w w' := by
  have Hn := Held.mk hn
  have Hr := Held.mk hr
  have Hg := Held.mk hg
  clear hn hr hg
  go_enter Try.func5, Try.ntmps5
  go_wp2_with fail
  refine (newWriter_any _).mono ?_
  rintro e w1 ⟨rfl, hw1, hb1⟩
  have Hw1 := Held.mk hw1
  have Hb1 := Held.mk hb1
  clear hw1 hb1
  go_wp2_with fail
  refine (works_any _).mono ?_
  rintro e w2 ⟨rfl, hb2⟩
  have Hw2 := Held.mk (Hw1.out.keep (Keep.of_below hb2 (fun k => w1.heap.size ≤ k)) (fun h => by have := Hw1.out.blk.lt; omega) (fun k hk => by cases hk))
  have Hb2 : Held (Below w.heap.size w w2) := ⟨Hb1.out.trans (hb2.mono Hb1.out.size)⟩
  clear hb2 Hb1 Hw1
  have hfar : ∀ wx : World, Below w.heap.size w wx → RdP wx (fun k => k < w.heap.size) A ps := fun wx h => Hr.out.keep (Keep.of_below h (fun k => ¬ k < w.heap.size)) (fun k hk => by simpa using hk)
  have Hfar := Held.mk hfar
  clear hfar
  go_wp2_with fail
  refine (vast_any _ A n c ps w2 Hn.out (Hfar.out _ Hb2.out) Hg.out (by omega)).mono ?_
  rintro e w3 hq
  obtain ⟨b, rfl, rfl, hv⟩ := hq
  cases b with
  | true =>
    go_wp2
    go_ret
    exact ⟨rfl, Hb2.out⟩
  | false =>
    have Hv := Held.mk (hv rfl)
    clear hv
    go_wp2
    generalize hW0 : w.heap.size = W0 at *
    have HW0 := Held.mk hW0
    clear hW0
    go_loopw [4] (fun i wr => ∃ (k : Nat) (v : Value), i = .int .i64 k ∧ k ≤ n ∧ Held (Wr wr W0 W0 v (laidAll (ps.take k))) ∧ Held (Below W0 w wr)) (fun i _ => n - (intOf i).toNat)
    case atStart => exact ⟨0, _, rfl, Nat.zero_le _, Hw2, Hb2⟩
    case round =>
      obtain ⟨k, v, rfl, hk, HW, HB⟩ := hrel
      by_cases hlt : k < n
      · obtain ⟨ad, rfl, _, hc0, hc1, hc2, hc3⟩ := (Hfar.out _ HB.out).at_ (show k < ps.length by rw [Hn.out]; exact hlt)
        have hp := Hg.out _ (List.getElem_mem (show k < ps.length by rw [Hn.out]; exact hlt))
        have hs : Held (laidAll (ps.take (k + 1)) = laidAll (ps.take k) ++ laid (ps[k]'(by rw [Hn.out]; exact hlt))) := ⟨by
          rw [List.take_succ_eq_append_getElem (by rw [Hn.out]; exact hlt), laidAll_snoc]⟩
        have hlen := laidAll_length (ps.take k) (fun p hp => Hg.out p (List.mem_of_mem_take hp))
        have htt : Held (tot (ps.take k) + (ps[k]'(by rw [Hn.out]; exact hlt)).s.size ≤ tot ps) := ⟨by
          rw [← tot_snoc, ← List.take_succ_eq_append_getElem]; exact tot_take _ _⟩
        have hlk : (ps.take k).length = k := by rw [List.length_take, Hn.out]; omega
        rw [hlk] at hlen
        have Hlen := Held.mk hlen
        clear hlen hlk
        have Hp := Held.mk hp
        clear hp
        generalize ps[k]'(by rw [Hn.out]; exact hlt) = p at *
        go_wp2_with fail
        refine (lay_any W0 W0 v _ p wr Hp.out (by have := Hlen.out; have := htt.out; have := Hv.out; omega) HW.out).mono ?_
        rintro e w4 ⟨rfl, v4, hw4, hk4, _⟩
        have HW4 := Held.mk hw4
        have HB4 : Held (Below W0 w w4) := ⟨by
          rw [← HW0.out]
          refine ((Keep.of_below (by rw [HW0.out]; exact HB.out) (fun _ => False)).then hk4 (fun i hi h => ?_)).to_below (fun _ _ h => h)
          have := HW0.out
          rcases h with h | h
          · omega
          · have := own_ge HW.out.own i h; omega⟩
        clear hw4 hk4
        go_wp2
        go_roundw
        case rel => exact ⟨k + 1, v4, by go_num, by omega, ⟨by rw [hs.out]; exact HW4.out⟩, HB4⟩
        case measure => simp [intOf]; omega
      · have hk1 : (n : Int) ≤ k := by omega
        have ek : ps.take k = ps := List.take_of_length_le (by rw [Hn.out]; omega)
        rw [ek] at HW
        have hlen := laidAll_length ps Hg.out
        rw [Hn.out] at hlen
        have Hlen := Held.mk hlen
        clear ek hlen
        go_wp2_with fail
        refine (done_any W0 W0 v _ wr (by have := Hlen.out; have := Hv.out; omega) HW.out).mono ?_
        rintro e w4 ⟨v4, rfl, ho4, hb4⟩
        obtain ⟨A4, c4, rfl, hc4, hr4⟩ := RdN.of_own ho4
        have Hr4 := Held.mk hr4
        have HB4 : Held (Below W0 w w4) := ⟨HB.out.trans (hb4.mono (by have := HB.out.size; have := HW0.out; omega))⟩
        clear ho4 hb4 hr4
        have hbyt := laidAll_byt ps Hg.out
        have Hbyt := Held.mk hbyt
        clear hbyt
        generalize hnl : (laidAll ps).length = nl at *
        have Hnl := Held.mk hnl
        clear hnl
        go_wp2_with fail
        refine (newReader_any _ A4 nl c4 (laidAll ps) w4 Hr4.out (by have := Hlen.out; have := Hv.out; omega) hc4 Hbyt.out).mono ?_
        rintro e w5 ⟨B, ok5, A5, n5, c5, rfl, hB5, hok5, hR5, hb5⟩
        have HR5 := Held.mk hR5
        have HB5 : Held (Below W0 w w5) := ⟨HB4.out.trans (hb5.mono (by have := HB4.out.size; have := HW0.out; omega))⟩
        have hBW : W0 ≤ B := by have := HB4.out.size; have := HW0.out; omega
        clear hR5 hb5 hok5 HW HB HB4 Hr4 hc4 hB5
        go_wp2
        go_loopw [6] (fun i w6 => ∃ (j : Nat) (A6 : Option Addr) (n6 c6 : Nat), i = .int .i64 j ∧ j ≤ n ∧ Held (Rdr w6 ok5 B A6 n6 c6 ⟨laidAll (ps.drop j), .ok⟩) ∧ Held (Below W0 w w6)) (fun i _ => n - (intOf i).toNat)
        case atStart => exact ⟨0, A5, n5, c5, rfl, Nat.zero_le _, HR5, HB5⟩
        case round =>
          obtain ⟨j, A6, n6, c6, rfl, hj, HR, HB⟩ := hrel
          clear HR5 HB5
          by_cases hjn : j < n
          · obtain ⟨ad, rfl, hab, hc0, hc1, hc2, hc3⟩ := (Hfar.out _ HB.out).at_ (show j < ps.length by rw [Hn.out]; exact hjn)
            have Hp := Held.mk (Hg.out _ (List.getElem_mem (show j < ps.length by rw [Hn.out]; exact hjn)))
            have hs : Held (laidAll (ps.drop j) = laid (ps[j]'(by rw [Hn.out]; exact hjn)) ++ laidAll (ps.drop (j + 1))) := ⟨laidAll_drop ps j (by rw [Hn.out]; exact hjn)⟩
            generalize ps[j]'(by rw [Hn.out]; exact hjn) = p at *
            obtain ⟨on, kind, x, s⟩ := p
            rw [hs.out] at HR
            clear hs
            generalize hrest : laidAll (ps.drop (j + 1)) = rest at *
            have Hrest := Held.mk hrest
            clear hrest
            have hsz6 : B < wr.heap.size := HR.out.blk.lt
            simp only at hc0 hc1 hc2 hc3
            have hU := Hp.out.x
            have hS := Hp.out.s
            simp only at hU hS
            by_cases h0 : kind = 0
            · subst h0
              rw [laid0] at HR
              refine case0 ok5 B W0 w wr A6 n6 c6 ad n c j on x s rest  hl hjn HW0 hBW hsz6 hU hS hc0 hc1 hc2 hc3 HR HB _ _ _ _ _ _ _ _ _ _ _ _ _ _ _ _ _ _ _ _ _ _ _ _ _ _ _ _ _ _ _ _ _ _ _ _ _ _ _ _ _ _ _ _ _ _ _ _ _ _ _ _ _ _ _ _ _ _ _ _ _ _ _ _ _ _ _ _ _ _ _ _ _ _ _ _ _ _ _ _ _ _ _ _ _ _ _ _ _ _ _ _ _ _ _ _ ⟨?_⟩
              intro _ _ _ _ _ _ _ _ _ _ _ _ _ _ _ _ _ _ _ _ _ _ _ _ _ _ _ _ _ _ _ _ _ _ _ _ _ _ _ _ _ _ _ _ _ _ _ _ _ _ _ A8 n8 c8 w8 H8 K8
              go_wp2
              go_roundw
              case rel => exact ⟨j + 1, _, _, _, by go_num, by omega, by rw [Hrest.out]; exact H8, K8⟩
              case measure => simp [intOf]; omega
            · by_cases h1 : kind = 1
              · subst h1
                rw [laid1] at HR
                refine case1 ok5 B W0 w wr A6 n6 c6 ad n c j on x s rest  hl hjn HW0 hBW hsz6 hU hS hc0 hc1 hc2 hc3 HR HB _ _ _ _ _ _ _ _ _ _ _ _ _ _ _ _ _ _ _ _ _ _ _ _ _ _ _ _ _ _ _ _ _ _ _ _ _ _ _ _ _ _ _ _ _ _ _ _ _ _ _ _ _ _ _ _ _ _ _ _ _ _ _ _ _ _ _ _ _ _ _ _ _ _ _ _ _ _ _ _ _ _ _ _ _ _ _ _ _ _ _ _ _ _ _ _ ⟨?_⟩
                intro _ _ _ _ _ _ _ _ _ _ _ _ _ _ _ _ _ _ _ _ _ _ _ _ _ _ _ _ _ _ _ _ _ _ _ _ _ _ _ _ _ _ _ _ _ _ _ _ _ _ _ A8 n8 c8 w8 H8 K8
                go_wp2
                go_roundw
                case rel => exact ⟨j + 1, _, _, _, by go_num, by omega, by rw [Hrest.out]; exact H8, K8⟩
                case measure => simp [intOf]; omega
              · by_cases h2 : kind = 2
                · subst h2
                  rw [laid2] at HR
                  refine case2 ok5 B W0 w wr A6 n6 c6 ad n c j on x s rest  hl hjn HW0 hBW hsz6 hU hS hc0 hc1 hc2 hc3 HR HB _ _ _ _ _ _ _ _ _ _ _ _ _ _ _ _ _ _ _ _ _ _ _ _ _ _ _ _ _ _ _ _ _ _ _ _ _ _ _ _ _ _ _ _ _ _ _ _ _ _ _ _ _ _ _ _ _ _ _ _ _ _ _ _ _ _ _ _ _ _ _ _ _ _ _ _ _ _ _ _ _ _ _ _ _ _ _ _ _ _ _ _ _ _ _ _ ⟨?_⟩
                  intro _ _ _ _ _ _ _ _ _ _ _ _ _ _ _ _ _ _ _ _ _ _ _ _ _ _ _ _ _ _ _ _ _ _ _ _ _ _ _ _ _ _ _ _ _ _ _ _ _ _ _ A8 n8 c8 w8 H8 K8
                  go_wp2
                  go_roundw
                  case rel => exact ⟨j + 1, _, _, _, by go_num, by omega, by rw [Hrest.out]; exact H8, K8⟩
                  case measure => simp [intOf]; omega
                · rw [show laid ⟨on, kind, x, s⟩ = [] from laid3 h0 h1 h2, List.nil_append] at HR
                  refine case3 ok5 B W0 w wr A6 n6 c6 ad n c j on x s rest kind (beq_eq_false_iff_ne.2 h0) (beq_eq_false_iff_ne.2 h1) (beq_eq_false_iff_ne.2 h2) hl hjn HW0 hBW hsz6 hU hS hc0 hc1 hc2 hc3 HR HB _ _ _ _ _ _ _ _ _ _ _ _ _ _ _ _ _ _ _ _ _ _ _ _ _ _ _ _ _ _ _ _ _ _ _ _ _ _ _ _ _ _ _ _ _ _ _ _ _ _ _ _ _ _ _ _ _ _ _ _ _ _ _ _ _ _ _ _ _ _ _ _ _ _ _ _ _ _ _ _ _ _ _ _ _ _ _ _ _ _ _ _ _ _ _ _ ⟨?_⟩
                  intro _ _ _ _ _ _ _ _ _ _ _ _ _ _ _ _ _ _ _ _ _ _ _ _ _ _ _ _ _ _ _ _ _ _ _ _ _ _ _ _ _ _ _ _ _ _ _ _ _ _ _ A8 n8 c8 w8 H8 K8
                  go_wp2
                  go_roundw
                  case rel => exact ⟨j + 1, _, _, _, by go_num, by omega, by rw [Hrest.out]; exact H8, K8⟩
                  case measure => simp [intOf]; omega
          · have hj1 : (n : Int) ≤ j := by omega
            have ed : ps.drop j = [] := List.drop_of_length_le (by rw [Hn.out]; omega)
            rw [ed] at HR
            clear ed
            go_wp2_with fail
            refine (left_any ok5 B A6 n6 c6 _ wr HR.out).mono ?_
            rintro e w9 ⟨rfl, rfl⟩
            rw [show (⟨laidAll [], .ok⟩ : RS).xs.length = 0 from rfl]
            go_wp2_with fail
            refine (end_any ok5 B A6 n6 c6 _ wr HR.out).mono ?_
            rintro e w9 ⟨rfl, rfl⟩
            rw [show endM ⟨laidAll [], .ok⟩ = .ok from rfl]
            simp only [Er.enc]
            go_wp2
            go_ret
            exact ⟨rfl, by rw [HW0.out]; exact HB.out⟩
end Wire
end Go.Proofs.Ythkhemcbkcoliaa
