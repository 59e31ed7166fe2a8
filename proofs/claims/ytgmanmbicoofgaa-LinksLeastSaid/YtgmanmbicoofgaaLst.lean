/- LinksLeast: the walk. -/
import Derived.Test.YtgmanmbicoofgaaFit
namespace Go.Proofs.Ytgmanmbicoofgaa
set_option linter.unusedVariables false
set_option linter.unusedSimpArgs false
namespace Ord
open Go.RowKit Mem Grp
def bools (M : List Bool) : List Value := M.map Value.bool
/-- A row of one's own of so many yes and no. -/
def Bw (w : World) (base B n : Nat) (M : List Bool) : Prop := Rw w base 4 B n (bools M)
section
variable {w w' : World} {base B n : Nat} {M : List Bool}
theorem Bw.len (h : Bw w base B n M) : M.length = n := by have := h.1; simpa [bools] using this
theorem Bw.cell (h : Bw w base B n M) {i : Nat} (hi : i < n) : w.cell? ⟨B, i, none⟩ = some (.bool (M.getD i false)) := by
  have hl := Bw.len h
  rw [Rw.cell h hi]
  simp [bools, List.getD_eq_getElem?_getD, List.getElem?_eq_getElem (show i < M.length by omega)]
theorem Bw.frozen (h : Bw w base B n M) (i : Nat) : w.frozen? ⟨B, i, none⟩ = false := Rw.frozen h i
theorem Bw.set_ (h : Bw w base B n M) {i : Nat} (hi : i < n) (u : Bool) : Bw (w.setCell ⟨B, i, none⟩ (.bool u)) base B n (M.set i u) := by
  have := Rw.set_ h hi (.bool u)
  unfold Bw bools at *
  rw [List.map_set]
  exact this
end
theorem bools_row (n : Nat) (f : Nat → Bool) : bools (row n f) = row n fun x => .bool (f x) := by
  unfold bools row
  rw [List.map_map]
  rfl
theorem RdP.own {w : World} {base : Nat} {v : Value} {ps : List (Nat × Nat)} (h : w.ownsRow base 31 2 v ps.length (ps.flatMap two)) : ∃ A c, v = .slice A ps.length c ∧ RdP w (fun k => v.ownBlock = some k) A ps := by
  obtain ⟨A, c, e, _, hr⟩ := RdV.of_own h
  exact ⟨A, c, e, hr⟩
set_option maxHeartbeats 4000000 in
set_option maxRecDepth 100000 in
theorem least_any (k0 : Int) (A : Option Addr) (m c : Nat) (l : List Two) (w : World) (hk : -9223372036854775808 ≤ k0 ∧ k0 ≤ 9223372036854775807) (hm : m = l.length) (hb : m ≤ 8796093022208) (h : RdT w (fun k => k < w.heap.size) A l) (hg : ∀ p ∈ l, p.Good) :
    Calls Try.prog 3 #[.int .i64 k0, .slice A m c] w fun e w' => e = .returned (.bool true) ∧ Below w.heap.size w w' := by
  have HF := Held.mk (fits_any k0 A m c l w hk hm hb h hg)
  clear h hg hm hk
  go_enter Try.func3, Try.ntmps3
  go_wp2_with fail
  refine HF.out.mono ?_
  rintro e w1 ⟨n, ps, v, rfl, hn, hlen, hps, hown, hb1⟩
  have hlI : ps.length ≤ 8796093022208 := by omega
  obtain ⟨Aw, cw, rfl, hrd⟩ := RdP.own hown
  have HRd := Held.mk hrd
  have HP := Held.mk hps
  have HB1 := Held.mk hb1
  have HOw : Held (∀ k, (Value.slice Aw ps.length cw).ownBlock = some k → k < w1.heap.size) := ⟨fun k e => own_lt hown k e⟩
  clear hrd hps hb1 hown HF hlen
  go_wp2_with fail
  refine (groups_ok n Aw ps.length cw ps _ w1 (by omega) rfl (by omega) HRd.out HOw.out HP.out).mono ?_
  rintro e w2 ⟨C, rfl, hn2, hb2⟩
  have HN2 := Held.mk hn2
  have HB12 := Held.mk hb2
  have HB2 : Held (Below w.heap.size w w2) := ⟨HB1.out.trans (hb2.mono HB1.out.size)⟩
  clear hn2 hb2 HB1
  have hnn : ((n : Int) == n) = true := by simp
  go_wp2_with fail
  refine (works_any w2).mono ?_
  rintro e w3 ⟨rfl, hb3⟩
  have hcc : w1.heap.size ≤ C ∧ C < w2.heap.size := ⟨Nr.ge HN2.out, Nr.lt HN2.out⟩
  have HN3 := Held.mk (Nr.keep HN2.out (Keep.of_below hb3 (fun _ => False)) (fun h => h))
  have HB3 : Held (Below w.heap.size w w3) := ⟨HB2.out.trans (hb3.mono HB2.out.size)⟩
  have HRd3 : Held (RdP w3 _ Aw ps) := ⟨HRd.out.keep (Keep.of_below (HB12.out.trans (hb3.mono HB12.out.size)) (fun _ => False)) (fun _ _ h => h)⟩
  have HS3 : Held (w2.heap.size ≤ w3.heap.size) := ⟨hb3.size⟩
  have hL := least_leasts ps
  generalize leasts ps id = R at *
  have HL := Held.mk hL
  clear hL hb3 HN2 HB2 HRd
  go_wp2_with fail
  go_loopw [7] (fun i wr => ∃ k j : Nat, i = .int .i64 k ∧ k ≤ ps.length ∧ wr = w3.drewN j) (fun i _ => ps.length - (intOf i).toNat)
  case atStart => exact ⟨0, 0, rfl, Nat.zero_le _, rfl⟩
  case round =>
    obtain ⟨k, j, rfl, hk, rfl⟩ := hrel
    by_cases hlt : k < ps.length
    · obtain ⟨ad, rfl, _, c0, c1⟩ := HRd3.out.at_ hlt
      have hpk := HP.out ps[k] (List.getElem_mem hlt)
      have hpe := HL.out.pair ps[k] (List.getElem_mem hlt)
      generalize ps[k].1 = a at *
      generalize ps[k].2 = b at *
      obtain ⟨ha, hb'⟩ := hpk
      have g0 := Nr.cell HN3.out ha
      have g1 := Nr.cell HN3.out hb'
      rw [List.getD_eq_getElem?_getD, row_at, if_pos ha, Option.getD_some] at g0
      rw [List.getD_eq_getElem?_getD, row_at, if_pos hb', Option.getD_some, ← hpe] at g1
      clear hpe
      generalize R a = r at *
      go_wp2_with fail
      go_quiet (fail)
      go_wp2_with fail
      go_roundw
      case rel => exact ⟨k + 1, _, by go_num, by omega, rfl⟩
      case measure => simp [intOf]; omega
    · obtain rfl : k = ps.length := by omega
      have hmk := run_make_row' (P := Try.prog) 32 4 (.bool false) 1 underB infoB rfl .i64 .i64 n (by omega) (by omega)
      have HN4 : Held (Nr (w3.drewN j) w1.heap.size C n (row n R)) := ⟨Nr.keep HN3.out ((Keep.refl (fun _ => False) w3).drewN j) (fun h => h)⟩
      have HRd4 : Held (RdP (w3.drewN j) _ Aw ps) := ⟨HRd3.out.keep ((Keep.refl (fun _ => False) w3).drewN j) (fun _ _ h => h)⟩
      have HB4 : Held (Below w.heap.size w (w3.drewN j)) := ⟨below_drewN_ HB3.out j⟩
      have HS4 : Held (w2.heap.size ≤ (w3.drewN j).heap.size) := ⟨HS3.out⟩
      have HE4 : Held ((w3.drewN j).heap.size = w3.heap.size) := ⟨rfl⟩
      clear HN3 HRd3 HB3 HS3
      go_wp2_with fail
      clear hmk
      generalize w3.drewN j = w4 at *
      have HM0 : Held (Bw (w4.alloc (.cells (madeCells #[.bool false] n) 4)) w3.heap.size w3.heap.size n (row n fun x => if x < 0 then decide (R x = x) else false)) := ⟨by
        have := Rw.made w4 4 n (.bool false) (by omega)
        rw [HE4.out] at this
        unfold Bw
        rw [bools_row]
        simpa using this⟩
      have HSt : Held (∀ W, Keep (fun j => j = w3.heap.size) w4 W → RdP W (fun k => (Value.slice Aw ps.length cw).ownBlock = some k) Aw ps ∧ Nr W w1.heap.size C n (row n R) ∧ Below w.heap.size w W) := ⟨fun W hW => by
        have h4 := HS4.out
        have he := HE4.out
        have h12 := HB12.out.size
        have h0 := HB4.out.size
        exact ⟨HRd4.out.keep hW (fun k hk e => by have := HOw.out k hk; omega), Nr.keep HN4.out hW (by omega), HB4.out.trans ((hW.to_below (fun i hi e => by omega)).mono h0)⟩⟩
      have HK0 : Held (Keep (fun j => j = w3.heap.size) w4 (w4.alloc (.cells (madeCells #[.bool false] n) 4))) := ⟨(Keep.refl _ w4).alloc _⟩
      have hCD : C < w3.heap.size := by have := HS4.out; have := HE4.out; omega
      clear HN4 HRd4 HB4
      generalize w4.alloc (.cells (madeCells #[.bool false] n) 4) = w5 at *
      generalize hD : w3.heap.size = D at *
      go_loopw [9] (fun i wr => ∃ k : Nat, i = .int .i64 k ∧ k ≤ n ∧ Held (Bw wr D D n (row n fun x => if x < k then decide (R x = x) else false)) ∧ Held (Keep (fun j => j = D) w4 wr)) (fun i _ => n - (intOf i).toNat)
      case atStart => exact ⟨0, rfl, Nat.zero_le _, HM0, HK0⟩
      case round =>
        obtain ⟨k, rfl, hk, HMk, HKk⟩ := hrel
        clear HM0 HK0
        by_cases hlt2 : k < n
        · have hR1 := HL.out.le k
          have hR2 := HL.out.fix k
          have g0 := Nr.cell (HSt.out _ HKk.out).2.1 hlt2
          have g1 := Nr.cell (HSt.out _ HKk.out).2.1 (show R k < n by omega)
          rw [List.getD_eq_getElem?_getD, row_at, if_pos hlt2, Option.getD_some] at g0
          rw [List.getD_eq_getElem?_getD, row_at, if_pos (show R k < n by omega), Option.getD_some, hR2] at g1
          have hrn : R k < n := by omega
          have HMn : Held (∀ q : Nat, Bw ((wr.drewN q).setCell ⟨D, k, none⟩ (.bool ((R k : Int) == (k : Int)))) D D n (row n fun x => if x < k + 1 then decide (R x = x) else false)) := ⟨fun q => by
            have := Bw.set_ (Rw.keep HMk.out ((Keep.refl (fun _ => False) wr).drewN q) (fun h => h)) hlt2 ((R k : Int) == (k : Int))
            rwa [row_set hlt2 (g := fun x => if x < k + 1 then decide (R x = x) else false) (by
              rw [if_pos (by omega), Bool.eq_iff_iff]
              simp only [decide_eq_true_eq, beq_iff_eq]
              exact ⟨fun h => by omega, fun h => by omega⟩) (fun y _ hy => by
              by_cases h1 : y < k
              · rw [if_pos h1, if_pos (by omega)]
              · rw [if_neg h1, if_neg (by omega)])] at this⟩
          have HKn : Held (∀ q : Nat, Keep (fun j => j = D) w4 ((wr.drewN q).setCell ⟨D, k, none⟩ (.bool ((R k : Int) == (k : Int))))) := ⟨fun q => (HKk.out.drewN q).setCell (p := ⟨D, k, none⟩) (fun _ => rfl) _⟩
          have hfr := Bw.frozen HMk.out k
          have hce := Bw.cell HMk.out hlt2
          generalize List.getD (row n fun x => if x < k then decide (R x = x) else false) k false = ub at hce
          generalize R k = r at *
          have hr0 : ¬ ((r : Int) < 0) := by omega
          have hr1 : ¬ ((k : Int) < r) := by omega
          have hd0 : decide ((r : Int) < 0) = false := decide_eq_false hr0
          have hd1 : decide ((k : Int) < r) = false := decide_eq_false hr1
          clear hR2
          go_wp2_with fail
          go_quiet (fail)
          go_wp2_with fail
          go_roundw
          case rel => exact ⟨k + 1, by go_num, by omega, ⟨HMn.out _⟩, ⟨HKn.out _⟩⟩
          case measure => simp [intOf]; omega
        · obtain rfl : k = n := by omega
          have HM1 : Held (Bw wr D D k (row k fun x => decide (R x = x))) := ⟨by
            have := HMk.out
            rwa [row_ext (f := fun x => decide (R x = x)) (row_len _ _) (fun i hi => by rw [row_at, if_pos hi, if_pos hi])] at this⟩
          clear HMk
          generalize hM0 : (row k fun x => decide (R x = x)) = M0 at *
          have HM0' := Held.mk hM0
          clear hM0
          generalize wr = w6 at *
          go_wp2_with fail
          go_loopw [10] (fun i wr => ∃ s : Nat, i = .int .i64 s ∧ s ≤ k ∧ Held (Bw wr D D k (passes ps M0 s)) ∧ Held (Keep (fun j => j = D) w4 wr)) (fun i _ => k - (intOf i).toNat)
          case atStart => exact ⟨0, rfl, Nat.zero_le _, HM1, HKk⟩
          case round =>
            obtain ⟨s, rfl, hs, HMs, HKs⟩ := hrel
            clear HM1 HKk
            by_cases hsl : s < k
            · generalize wr = w7 at *
              go_wp2_with fail
              go_loopw [11] (fun i wr => ∃ j : Nat, i = .int .i64 j ∧ j ≤ ps.length ∧ Held (Bw wr D D k ((ps.take j).foldl mstep (passes ps M0 s))) ∧ Held (Keep (fun j => j = D) w4 wr)) (fun i _ => ps.length - (intOf i).toNat)
              case atStart => exact ⟨0, rfl, Nat.zero_le _, HMs, HKs⟩
              case round =>
                obtain ⟨j2, rfl, hj2, HMj, HKj⟩ := hrel
                clear HMs HKs
                by_cases hjl : j2 < ps.length
                · obtain ⟨ad, rfl, had, c0, c1⟩ := ((HSt.out _ HKj.out).1).at_ hjl
                  have hpk := HP.out ps[j2] (List.getElem_mem hjl)
                  have HT : Held ((ps.take (j2 + 1)).foldl mstep (passes ps M0 s) = mstep ((ps.take j2).foldl mstep (passes ps M0 s)) (ps[j2].1, ps[j2].2)) := ⟨by rw [List.take_succ_eq_append_getElem hjl, List.foldl_append]; rfl⟩
                  generalize ps[j2].1 = a at *
                  generalize ps[j2].2 = b at *
                  obtain ⟨ha, hb'⟩ := hpk
                  generalize (ps.take j2).foldl mstep (passes ps M0 s) = M at *
                  have m0 := Bw.cell HMj.out ha
                  have m1 := Bw.cell HMj.out hb'
                  have hadD : (ad.add (j2 * 2)).block ≠ D := by
                    rw [block_of_add]
                    have := HOw.out _ had
                    have := HB12.out.size
                    have := HS4.out
                    have := HE4.out
                    omega
                  have key : (M.getD a false || M.getD b false) = true → Held (Bw ((wr.setCell ⟨D, a, none⟩ (.bool true)).setCell ⟨D, b, none⟩ (.bool true)) D D k ((ps.take (j2 + 1)).foldl mstep (passes ps M0 s))) ∧ Held (Keep (fun j => j = D) w4 ((wr.setCell ⟨D, a, none⟩ (.bool true)).setCell ⟨D, b, none⟩ (.bool true))) := fun hor => by
                    refine ⟨⟨?_⟩, ⟨(HKj.out.setCell (p := ⟨D, a, none⟩) (fun _ => rfl) _).setCell (p := ⟨D, b, none⟩) (fun _ => rfl) _⟩⟩
                    rw [HT.out, mstep, if_pos hor]
                    exact Bw.set_ (Bw.set_ HMj.out ha true) hb' true
                  have f0 := Bw.frozen HMj.out a
                  have m2 := Bw.cell (Bw.set_ HMj.out ha true) hb'
                  have f2 := Bw.frozen (Bw.set_ HMj.out ha true) b
                  have c1' := ((Keep.refl (fun j => j = D) wr).setCell (p := ⟨D, a, none⟩) (fun _ => rfl) (.bool true)).cell c1 hadD
                  generalize (M.set a true).getD b false = mb2 at m2
                  cases hma : M.getD a false with
                  | true =>
                    obtain ⟨HX, HY⟩ := key (by rw [hma]; rfl)
                    rw [hma] at m0
                    clear key HMj HKj HT
                    go_wp2_with fail
                    go_roundw
                    case rel => exact ⟨j2 + 1, by go_num, by omega, HX, HY⟩
                    case measure => simp [intOf]; omega
                  | false =>
                    rw [hma] at m0
                    cases hmb : M.getD b false with
                    | true =>
                      obtain ⟨HX, HY⟩ := key (by rw [hma, hmb]; rfl)
                      rw [hmb] at m1
                      clear key HMj HKj HT
                      go_wp2_with fail
                      go_roundw
                      case rel => exact ⟨j2 + 1, by go_num, by omega, HX, HY⟩
                      case measure => simp [intOf]; omega
                    | false =>
                      rw [hmb] at m1
                      have HX : Held (Bw wr D D k ((ps.take (j2 + 1)).foldl mstep (passes ps M0 s))) := ⟨by
                        rw [HT.out, mstep, if_neg (by rw [hma, hmb]; decide)]
                        exact HMj.out⟩
                      clear key HMj HT
                      go_wp2_with fail
                      go_roundw
                      case rel => exact ⟨j2 + 1, by go_num, by omega, HX, HKj⟩
                      case measure => simp [intOf]; omega
                · obtain rfl : j2 = ps.length := by omega
                  have HX : Held (Bw wr D D k (passes ps M0 (s + 1))) := ⟨by
                    have := HMj.out
                    rwa [List.take_length] at this⟩
                  clear HMj
                  go_wp2_with fail
                  go_roundw
                  case rel => exact ⟨s + 1, by go_num, by omega, HX, HKj⟩
                  case measure => simp [intOf]; omega
            · obtain rfl : s = k := by omega
              have HAll : Held (∀ i, i < s → (passes ps M0 s).getD i false = true) := ⟨fun i hi => all_met HL.out HP.out (by rw [← HM0'.out, row_len]) (fun x hx hR => by rw [← HM0'.out, List.getD_eq_getElem?_getD, row_at, if_pos hx]; simp [hR]) i hi⟩
              have HB6 : Held (Below w.heap.size w wr) := ⟨(HSt.out _ HKs.out).2.2⟩
              generalize wr = w8 at *
              go_wp2_with fail
              go_loopw [12] (fun i wr => ∃ x : Nat, i = .int .i64 x ∧ x ≤ s ∧ wr = w8) (fun i _ => s - (intOf i).toNat)
              case atStart => exact ⟨0, rfl, Nat.zero_le _, rfl⟩
              case round =>
                obtain ⟨x, rfl, hx, rfl⟩ := hrel
                by_cases hxl : x < s
                · have m0 := Bw.cell HMs.out hxl
                  rw [HAll.out x hxl] at m0
                  go_wp2_with fail
                  go_roundw
                  case rel => exact ⟨x + 1, by go_num, by omega, trivial⟩
                  case measure => simp [intOf]; omega
                · go_wp2_with fail
                  go_ret
                  exact ⟨rfl, HB6.out⟩
end Ord
end Go.Proofs.Ytgmanmbicoofgaa
