/- The document's order: New, the greatest part, Take: walked. -/
import Derived.Test.YtpbkmkclagikhaaDoorMny
import Derived.Test.YtpbkmkclagikhaaDoorWay
import Derived.Deep.RegionHeld3
namespace Go.Proofs.YtpbkmkclagikhaaDoor
set_option linter.unusedVariables false
set_option linter.unusedSimpArgs false
namespace Prt
open Go.RowKit Mem Dvs Err
theorem below_drew {B : Nat} {a w : World} (h : Below B a w) : Below B a w.drew := ⟨h.os, h.tape, h.output, h.size, h.block⟩
theorem best_zero {q a l m d : Nat} {have_ cash : Int} (hd : d ≤ q) (h : d = q ∨ have_ < 1) : Best q a l m d have_ cash 0 := by
  unfold Best
  split
  · rename_i hc
    omega
  · refine ⟨0, Nat.zero_le _, by omega, fun h0 => ?_, by simp⟩
    exfalso
    have : lots q l d have_ = 0 := by
      unfold lots
      rw [show (min have_ ((q : Int) - d - 1)).toNat = 0 from by omega, Nat.zero_div]
    omega
/-- The document's order at block B. -/
structure ROrd (w : World) (base B q a l m d p : Nat) (v : Value) (xs : List (Nat × Nat)) : Prop where
  blk : Blk w B 82 #[.int .i64 q, .int .i64 a, .int .i64 l, .int .i64 m, .int .i64 d, .int .i64 p, v]
  ge : base ≤ B
  own : w.ownsRow base 62 2 v xs.length (prs xs)
theorem ROrd.keep {w w' : World} {base B q a l m d p : Nat} {v : Value} {xs : List (Nat × Nat)} {S : Nat → Prop} (h : ROrd w base B q a l m d p v xs) (hk : Keep S w w') (hB : ¬ S B) (hv : ∀ k, v.ownBlock = some k → ¬ S k) : ROrd w' base B q a l m d p v xs :=
  ⟨h.blk.keep hk hB, h.ge, hk.own h.own hv⟩
theorem ROrd.below {w w' : World} {base B q a l m d p : Nat} {v : Value} {xs : List (Nat × Nat)} (h : ROrd w base B q a l m d p v xs) (hk : Below w.heap.size w w') : ROrd w' base B q a l m d p v xs :=
  h.keep (Keep.of_below hk (fun _ => False)) (fun h => h) (fun _ _ h => h)
theorem ROrd.ne {w : World} {base B q a l m d p : Nat} {v : Value} {xs : List (Nat × Nat)} (h : ROrd w base B q a l m d p v xs) : v.ownBlock ≠ some B := own_blk_ne h.own h.blk (by decide)
set_option maxHeartbeats 4000000 in
set_option maxRecDepth 100000 in
theorem rNew_in (q a l m : Nat) (w : World) (hq : 0 < q) (hl : 0 < l) :
    Calls Tryd.prog 20 #[.int .i64 q, .int .i64 a, .int .i64 l, .int .i64 m] w fun e w' => e = .returned (.tuple #[.pointer (some ⟨w.heap.size, 0, none⟩), .int .i64 0]) ∧ w' = w.alloc (.cells #[.int .i64 q, .int .i64 a, .int .i64 l, .int .i64 m, .int .i64 0, .int .i64 0, .slice none 0 0] 82) := by
  have i1 : decide ((q : Int) < 1) = false := decide_eq_false_iff_not.2 (by omega)
  have i2 : decide ((l : Int) < 1) = false := decide_eq_false_iff_not.2 (by omega)
  go_enter Tryd.func20, Tryd.ntmps20
  go_wp2
  go_ret2
  exact ⟨rfl, rfl⟩
set_option maxHeartbeats 4000000 in
set_option maxRecDepth 100000 in
theorem rNew_no (q a l m : Int) (w : World) (h : q < 1 ∨ a < 0 ∨ l < 1 ∨ m < 0) :
    Calls Tryd.prog 20 #[.int .i64 q, .int .i64 a, .int .i64 l, .int .i64 m] w fun e w' => e = .returned (.tuple #[.pointer none, .int .i64 1]) ∧ w' = w := by
  have hc : (decide (q < 1) = true) ∨ (decide (q < 1) = false ∧ decide (l < 1) = true) ∨ (decide (q < 1) = false ∧ decide (l < 1) = false ∧ decide (a < 0) = true) ∨ (decide (q < 1) = false ∧ decide (l < 1) = false ∧ decide (a < 0) = false ∧ decide (m < 0) = true) := by
    simp only [decide_eq_true_eq, decide_eq_false_iff_not]
    omega
  clear h
  rcases hc with c1 | ⟨c1, c2⟩ | ⟨c1, c2, c3⟩ | ⟨c1, c2, c3, c4⟩
  all_goals
    go_enter Tryd.func20, Tryd.ntmps20
    go_wp2
    go_ret2
    exact ⟨rfl, rfl⟩
set_option maxHeartbeats 4000000 in
set_option maxRecDepth 100000 in
theorem rmoney_in (B q a l m d p0 p : Nat) (v : Value) (w : World) (hb : Blk w B 82 #[.int .i64 q, .int .i64 a, .int .i64 l, .int .i64 m, .int .i64 d, .int .i64 p0, v]) (hq : 0 < q) (hqm : q ≤ 9223372036854775807) (ha : a ≤ 9223372036854775807) (hd : d + p ≤ q) :
    Calls Tryd.prog 40 #[.pointer (some ⟨B, 0, none⟩), .int .i64 p] w fun e w' => e = .returned (.int .i64 (mny q a d p)) ∧ Below w.heap.size w w' := by
  have H1 := Held.mk (fun w => rMoney_in q a d p w hq hqm ha hd)
  have HK := Held.mk hb
  have k0 := hb.cell 0
  have k1 := hb.cell 1
  have k4 := hb.cell 4
  simp at k0 k1 k4
  clear hb hqm ha hd
  go_enter Tryd.func40, Tryd.ntmps40
  go_wp2
  go_region_held3 (fun w' => w'.cell? ⟨B, 0, none⟩ = some (.int .i64 q) ∧ w'.cell? ⟨B, 1, none⟩ = some (.int .i64 a) ∧ w'.cell? ⟨B, 4, none⟩ = some (.int .i64 d)) (go_keep)
    ((go_at_call 13; refine (H1.out _).mono ?_; rintro e w1 ⟨rfl, hb⟩; have hk1 := Keep.of_below hb (fun _ => False); have d0 := hk1.cell (a := ⟨B, 0, none⟩) (by exact k0) (fun h => h); have d1 := hk1.cell (a := ⟨B, 1, none⟩) (by exact k1) (fun h => h); have d4 := hk1.cell (a := ⟨B, 4, none⟩) (by exact k4) (fun h => h)))
  go_wp2
  go_ret
  exact ⟨rfl, (below_drew (Below.refl _ _)).trans hb⟩
set_option maxHeartbeats 8000000 in
set_option maxRecDepth 100000 in
theorem best_in (B q a l m d p0 : Nat) (have_ cash : Int) (v : Value) (w : World) (hb : Blk w B 82 #[.int .i64 q, .int .i64 a, .int .i64 l, .int .i64 m, .int .i64 d, .int .i64 p0, v])
    (hq : 0 < q) (hqm : q ≤ 9223372036854775807) (ha : a ≤ 9223372036854775807) (hl : 0 < l) (hd : d ≤ q) (hh : -9223372036854775808 ≤ have_ ∧ have_ ≤ 9223372036854775807) :
    Calls Tryd.prog 39 #[.pointer (some ⟨B, 0, none⟩), .int .i64 have_, .int .i64 cash] w fun e w' => (∃ t : Nat, e = .returned (.int .i64 t) ∧ Best q a l m d have_ cash t) ∧ Below w.heap.size w w' := by
  have HC := Held.mk (fun w hb p hp => rmoney_in B q a l m d p0 p v w hb hq hqm ha hp)
  have HK := Held.mk hb
  have k0 := hb.cell 0
  have k2 := hb.cell 2
  have k3 := hb.cell 3
  have k4 := hb.cell 4
  simp at k0 k2 k3 k4
  have hq1 : (q : Int) ≤ 9223372036854775807 := by omega
  have hd1 : (d : Int) ≤ (q : Int) := by omega
  have hl1 : (1 : Int) ≤ (l : Int) := by omega
  have hl0 : ((l : Int) == 0) = false := beq_eq_false_iff_ne.2 (by omega)
  obtain ⟨hh1, hh2⟩ := hh
  have HD := Held.mk hd
  have HL := Held.mk hl
  have eD : Held ((q : Int) - (d : Int) = ((q - d : Nat) : Int)) := ⟨by omega⟩
  obtain ⟨zl, hzl⟩ : ∃ zl : Nat, zl = q - d := ⟨_, rfl⟩
  by_cases cz : d = q ∨ have_ < 1
  · have HBz := Held.mk (best_zero (a := a) (l := l) (m := m) (cash := cash) hd cz)
    have hc : (((q : Int) - (d : Int) == 0) = true) ∨ (((q : Int) - (d : Int) == 0) = false ∧ decide (have_ < 1) = true) := by
      by_cases h : d = q
      · exact .inl (beq_iff_eq.2 (by omega))
      · exact .inr ⟨beq_eq_false_iff_ne.2 (by omega), decide_eq_true (by omega)⟩
    clear cz hb hqm ha hd hl hq
    rcases hc with c1 | ⟨c1, c2⟩
    all_goals
      go_enter Tryd.func39, Tryd.ntmps39
      go_wp2
      go_quiet (fail)
      go_wp2
      go_ret
      exact ⟨⟨0, rfl, HBz.out⟩, below_drewN (Below.refl _ _) _⟩
  · have cz1 : ((q : Int) - (d : Int) == 0) = false := beq_eq_false_iff_ne.2 (by omega)
    have cz2 : decide (have_ < 1) = false := decide_eq_false (by omega)
    have hv1 : 1 ≤ have_ := by omega
    have hdl : (d : Int) + 1 ≤ (q : Int) := by omega
    clear cz
    by_cases c1 : (q : Int) - (d : Int) ≤ have_ ∧ (mny q a d (q - d) : Int) ≤ cash
    · have HBest : Held (Best q a l m d have_ cash (q - d)) := ⟨by unfold Best; rw [if_pos c1]⟩
      obtain ⟨c1, c2⟩ := c1
      have i1 : decide ((q : Int) - (d : Int) ≤ have_) = true := decide_eq_true c1
      have i2 : decide ((mny q a d (q - d) : Int) ≤ cash) = true := decide_eq_true c2
      clear c1 c2 hqm ha hd hl hq hb
      go_enter Tryd.func39, Tryd.ntmps39
      go_wp2
      go_quiet (fail)
      go_wp2_with fail
      rw [eD.out]
      refine (HC.out _ (HK.out.drewN _) _ (by have := HD.out; omega)).mono ?_
      rintro e w1 ⟨rfl, hb⟩
      have HB : Held (Below w.heap.size w w1) := ⟨(below_drewN (Below.refl _ _) _).trans hb⟩
      clear hb k0 k2 k3 k4
      go_wp2
      go_ret
      exact ⟨⟨_, rfl, HBest.out⟩, HB.out⟩
    · have hcase : (decide ((q : Int) - (d : Int) ≤ have_) = false) ∨ (decide ((q : Int) - (d : Int) ≤ have_) = true ∧ decide ((mny q a d (q - d) : Int) ≤ cash) = false) := by
        by_cases h1 : (q : Int) - (d : Int) ≤ have_
        · exact .inr ⟨decide_eq_true h1, decide_eq_false (fun h2 => c1 ⟨h1, h2⟩)⟩
        · exact .inl (decide_eq_false h1)
      have HC1 := Held.mk c1
      have HLM : Held (∀ n, n ≤ lots q l d have_ → n * l ≤ q - d) := ⟨fun n hn => lots_le hl hd hn⟩
      have HLI : Held (∀ n, n ≤ lots q l d have_ → n ≤ q) := ⟨fun n hn => by
        have h1 := HLM.out n hn
        have h2 := Nat.mul_le_mul_left n hl
        omega⟩
      have HMo : Held (∀ i j, i ≤ j → mny q a d (i * l) ≤ mny q a d (j * l)) := ⟨fun i j h => mny_mono (Nat.mul_le_mul_right l h)⟩
      have hmost : (decide (have_ < (q : Int) - (d : Int) - 1) = true ∧ have_ / (l : Int) = ((lots q l d have_ : Nat) : Int)) ∨ (decide (have_ < (q : Int) - (d : Int) - 1) = false ∧ ((q : Int) - (d : Int) - 1) / (l : Int) = ((lots q l d have_ : Nat) : Int)) := by
        by_cases h : have_ < (q : Int) - (d : Int) - 1
        · refine .inl ⟨decide_eq_true h, ?_⟩
          unfold lots
          rw [Int.natCast_ediv, show ((min have_ ((q : Int) - d - 1)).toNat : Int) = have_ from by omega]
        · refine .inr ⟨decide_eq_false h, ?_⟩
          unfold lots
          rw [Int.natCast_ediv, show ((min have_ ((q : Int) - d - 1)).toNat : Int) = (q : Int) - d - 1 from by omega]
      have hj0 : 0 ≤ (q : Int) - (d : Int) - 1 := by omega
      have HLQ : Held (∀ n : Nat, n ≤ lots q l d have_ → 0 ≤ (n : Int) * (l : Int) ∧ (n : Int) * (l : Int) ≤ 9223372036854775807 ∧ (n : Int) * (l : Int) = ((n * l : Nat) : Int) ∧ d + n * l ≤ q) := ⟨fun n hn => by
        have h1 := HLM.out n hn
        have h2 : (n : Int) * (l : Int) = ((n * l : Nat) : Int) := (Int.natCast_mul _ _).symm
        rw [h2]
        exact ⟨by omega, by omega, rfl, by omega⟩⟩
      have hlq : Held (((lots q l d have_ : Nat) : Int) + 1 ≤ 9223372036854775807) := ⟨by
        have h1 : lots q l d have_ ≤ (min have_ ((q : Int) - d - 1)).toNat := by unfold lots; exact Nat.div_le_self _ _
        have h2 : (min have_ ((q : Int) - d - 1)).toNat + 1 ≤ q - d := by omega
        omega⟩
      clear c1 hqm ha hd hl hq hb
      generalize hlo : lots q l d have_ = lt at *
      have HLT := Held.mk hlo
      clear hlo
      rcases hcase with i1 | ⟨i1, i2⟩
      all_goals rcases hmost with ⟨m1, m2⟩ | ⟨m1, m2⟩
      all_goals
        go_enter Tryd.func39, Tryd.ntmps39
        go_wp2
        go_quiet (fail)
        go_wp2_with fail
        first
          | (have HCq := HC.out _ (HK.out.drewN nq) (q - d) (by have := HD.out; omega)
             rw [← eD.out] at HCq
             refine HCq.mono ?_
             clear HCq
             rintro e w1 ⟨rfl, hb⟩
             have HB : Held (Below w.heap.size w w1) := ⟨(below_drewN (Below.refl _ _) _).trans hb⟩
             have HK1 := Held.mk ((HK.out.drewN _).keep (Keep.of_below hb (fun _ => False)) (fun h => h))
             clear hb k0 k2 k3 k4
             have k0 := HK1.out.cell 0
             have k2 := HK1.out.cell 2
             have k3 := HK1.out.cell 3
             have k4 := HK1.out.cell 4
             simp at k0 k2 k3 k4
             go_wp2_with fail)
          | (have HB : Held (Below w.heap.size w (w.drewN nq)) := ⟨below_drewN (Below.refl _ _) _⟩
             have HK1 := Held.mk (HK.out.drewN nq)
             generalize w.drewN nq = w1 at *)
        clear k0 k2 k3 k4
        go_loopw [9, 10] (fun lo hi wr => ∃ r h : Nat, lo = .int .i64 r ∧ hi = .int .i64 h ∧ r ≤ h ∧ h ≤ lt ∧ Held (∀ i, i < r → (mny q a d ((i + 1) * l) : Int) ≤ cash) ∧ Held (h < lt → cash < (mny q a d ((h + 1) * l) : Int)) ∧
          Held (Blk wr B 82 #[.int .i64 q, .int .i64 a, .int .i64 l, .int .i64 m, .int .i64 d, .int .i64 p0, v]) ∧ Held (Below w.heap.size w wr)) (fun lo hi _ => (intOf hi).toNat - (intOf lo).toNat)
        case atStart => exact ⟨0, lt, rfl, by first | rfl | (rw [← m2]; done) | (rw [m2]), Nat.zero_le _, Nat.le_refl _, ⟨fun i h => absurd h (Nat.not_lt_zero _)⟩, ⟨fun h => absurd h (Nat.lt_irrefl _)⟩, HK1, HB⟩
        case round =>
          obtain ⟨r, h, rfl, rfl, hrh, hht, HLo, HHi, HKr, HBr⟩ := hrel
          clear m1 m2 i1 HK1 HB hj0
          have k0 := HKr.out.cell 0
          have k2 := HKr.out.cell 2
          have k3 := HKr.out.cell 3
          have k4 := HKr.out.cell 4
          simp at k0 k2 k3 k4
          by_cases hlt : r < h
          · obtain ⟨k, hk⟩ : ∃ k : Nat, k = (h - r + 1) / 2 := ⟨_, rfl⟩
            have em : ((h : Int) - (r : Int) + 1) / 2 = (k : Int) := by omega
            have em2 : ((h : Int) - (r : Int) + 1).tdiv 2 = (k : Int) := by rw [Int.tdiv_eq_ediv_of_nonneg (by omega)]; exact em
            have em3 : (h : Int) - (r : Int) + 1 ≤ 9223372036854775807 := by have := hlq.out; omega
            have hrI : (r : Int) ≤ (h : Int) := by omega
            have hhI : (h : Int) ≤ 9223372036854775807 := by have := hlq.out; omega
            have hk1 : 1 ≤ k := by omega
            have hkh : r + k ≤ h := by omega
            have hkI : (r : Int) + (k : Int) ≤ 9223372036854775807 := by omega
            have hkJ : (1 : Int) ≤ (r : Int) + (k : Int) := by omega
            have hl2 : ((2 : Int) == 0) = false := rfl
            obtain ⟨b0, b1, er, hdm⟩ := HLQ.out (r + k) (by omega)
            have HER := Held.mk er
            have HDM := Held.mk hdm
            have HRK := Held.mk hk1
            have HRH := Held.mk hkh
            clear er hdm hk hk1
            rw [Int.natCast_add] at b0 b1
            clear k0 k3 k4
            by_cases hc : (mny q a d ((r + k) * l) : Int) ≤ cash
            · have ic : decide ((mny q a d ((r + k) * l) : Int) ≤ cash) = true := decide_eq_true hc
              have HLo2 : Held (∀ i, i < r + k → (mny q a d ((i + 1) * l) : Int) ≤ cash) := ⟨fun i hi => by have := HMo.out (i + 1) (r + k) (by omega); omega⟩
              clear hc
              go_wp2_with fail
              rw [show ((r : Int) + (k : Int)) * (l : Int) = (((r + k) * l : Nat) : Int) from by rw [← HER.out, Int.natCast_add]]
              refine (HC.out _ HKr.out _ HDM.out).mono ?_
              rintro e w2 ⟨rfl, hb2⟩
              have HK2 := Held.mk (HKr.out.keep (Keep.of_below hb2 (fun _ => False)) (fun h => h))
              have HB2 : Held (Below w.heap.size w w2) := ⟨HBr.out.trans (hb2.mono HBr.out.size)⟩
              clear hb2 k2
              go_wp2
              go_roundw
              case rel => exact ⟨r + k, h, by go_num, rfl, HRH.out, hht, HLo2, HHi, HK2, HB2⟩
              case measure => have := HRK.out; simp [intOf]; omega
            · have ic : decide ((mny q a d ((r + k) * l) : Int) ≤ cash) = false := decide_eq_false hc
              have HHi2 : Held (r + k - 1 < lt → cash < (mny q a d ((r + k - 1 + 1) * l) : Int)) := ⟨fun _ => by have := HRK.out; rw [show r + k - 1 + 1 = r + k from by omega]; omega⟩
              clear hc
              go_wp2_with fail
              rw [show ((r : Int) + (k : Int)) * (l : Int) = (((r + k) * l : Nat) : Int) from by rw [← HER.out, Int.natCast_add]]
              refine (HC.out _ HKr.out _ HDM.out).mono ?_
              rintro e w2 ⟨rfl, hb2⟩
              have HK2 := Held.mk (HKr.out.keep (Keep.of_below hb2 (fun _ => False)) (fun h => h))
              have HB2 : Held (Below w.heap.size w w2) := ⟨HBr.out.trans (hb2.mono HBr.out.size)⟩
              clear hb2 k2
              go_wp2
              go_roundw
              case rel => exact ⟨r, r + k - 1, rfl, congrArg (Value.int .i64) (by have := HRK.out; omega), by have := HRK.out; omega, by have := HRH.out; omega, HLo, HHi2, HK2, HB2⟩
              case measure => have := HRK.out; have := HRH.out; simp [intOf]; omega
          · have hrh2 : h = r := by omega
            subst hrh2
            have HHT := Held.mk hht
            obtain ⟨b0, b1, er, hdm⟩ := HLQ.out h hht
            have HER := Held.mk er
            have HDM := Held.mk hdm
            have HBest : ∀ t : Nat, t = (if m ≤ h * l then h * l else 0) → Best q a l m d have_ cash t := fun t ht => by
              unfold Best
              rw [if_neg HC1.out]
              exact ⟨h, by rw [HLT.out]; exact HHT.out, HLo.out, fun hx => HHi.out (by rw [HLT.out] at hx; exact hx), ht⟩
            have HBs := Held.mk HBest
            clear HBest hdm hrh hlt
            by_cases hm : m ≤ h * l
            · have im : decide ((h : Int) * (l : Int) < (m : Int)) = false := decide_eq_false (by rw [HER.out]; omega)
              have HMm := Held.mk hm
              have hw : IntKind.i64.wrap ((h : Int) * (l : Int)) = (h : Int) * (l : Int) := IntWalk.i64_in _ ⟨by omega, b1⟩
              clear hm er
              have hgc : (decide (cash < (mny q a d (h * l) : Int)) = true ∧ h = 0) ∨ decide (cash < (mny q a d (h * l) : Int)) = false := by
                by_cases hgc : cash < (mny q a d (h * l) : Int)
                · refine .inl ⟨decide_eq_true hgc, ?_⟩
                  rcases Nat.eq_zero_or_pos h with e | e
                  · exact e
                  · have := HLo.out (h - 1) (by omega)
                    rw [show h - 1 + 1 = h from by omega] at this
                    omega
                · exact .inr (decide_eq_false hgc)
              have HBt : Held (∀ t : Nat, (t = h * l ∨ (t = 0 ∧ h = 0)) → Best q a l m d have_ cash t) := ⟨fun t ht => HBs.out t (by
                rw [if_pos HMm.out]
                rcases ht with ht | ⟨ht, h0⟩
                · exact ht
                · rw [ht, h0, Nat.zero_mul])⟩
              clear HBs HLo HHi
              rcases hgc with ⟨igc, h0⟩ | igc
              all_goals
                first | (have H0 := Held.mk h0; clear h0) | skip
                go_wp2
                go_region_held3 (fun w' => w'.cell? ⟨B, 2, none⟩ = some (.int .i64 l) ∧ w'.cell? ⟨B, 3, none⟩ = some (.int .i64 m)) (go_keep)
                  ((go_at_call 40; rw [HER.out]; refine (HC.out _ (by exact HKr.out.drewN 1) _ HDM.out).mono ?_; rintro e w2 ⟨rfl, hb2⟩; have hk2 := Keep.of_below hb2 (fun _ => False); have d2 := hk2.cell (a := ⟨B, 2, none⟩) (by exact k2) (fun h => h); have d3 := hk2.cell (a := ⟨B, 3, none⟩) (by exact k3) (fun h => h)))
                have HB2 : Held (Below w.heap.size w w2) := ⟨HBr.out.trans (((below_drew (Below.refl _ _)).trans hb2).mono HBr.out.size)⟩
                clear hb2 hk2 k0 k2 k3 k4
                go_wp2
                go_ret
                first
                  | exact ⟨⟨0, rfl, HBt.out 0 (.inr ⟨rfl, H0.out⟩)⟩, HB2.out⟩
                  | exact ⟨⟨h * l, congrArg (fun x => Ending.returned (Value.int .i64 x)) HER.out, HBt.out _ (.inl rfl)⟩, HB2.out⟩
            · have im : decide ((h : Int) * (l : Int) < (m : Int)) = true := decide_eq_true (by rw [HER.out]; omega)
              have HBt : Held (Best q a l m d have_ cash 0) := ⟨HBs.out 0 (by rw [if_neg hm])⟩
              clear hm er
              go_wp2
              go_quiet (fail)
              go_wp2
              go_ret
              exact ⟨⟨0, rfl, HBt.out⟩, below_drewN HBr.out _⟩
end Prt
end Go.Proofs.YtpbkmkclagikhaaDoor
