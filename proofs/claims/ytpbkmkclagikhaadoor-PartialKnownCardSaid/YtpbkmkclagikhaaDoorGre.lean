/- The greatest part that there is enough for: walked. -/
import Derived.Test.YtpbkmkclagikhaaDoorOrd
namespace Go.Proofs.YtpbkmkclagikhaaDoor
set_option linter.unusedVariables false
set_option linter.unusedSimpArgs false
namespace Prt
open Go.RowKit Mem Dvs
theorem quiet_add {P : Program} {f : FuncId} {args : Array Value} {w : World} {a n : Nat} {v : Value}
    (h : Calls P f args (w.drewN (a + n)) fun e w' => e = .returned v ∧ ∃ m, w' = (w.drewN (a + n)).drewN m) :
    Calls P f args (w.drewN (a + n)) fun e w'' => e = .returned v ∧ ∃ m, w'' = w.drewN (a + m) :=
  h.mono fun _ _ ⟨he, m, hm⟩ => ⟨he, n + m, by rw [hm, World.drewN_drewN, Nat.add_assoc]⟩
set_option maxHeartbeats 8000000 in
set_option maxRecDepth 100000 in
theorem greatest_in (B q a l m d p0 : Nat) (have_ cash : Int) (v : Value) (w : World) (hb : Blk w B 80 #[.int .i64 q, .int .i64 a, .int .i64 l, .int .i64 m, .int .i64 d, .int .i64 p0, v])
    (hq : 0 < q) (hqm : q ≤ 9223372036854775807) (ha : a ≤ 9223372036854775807) (hl : 0 < l) (hd : d ≤ q) (hh : -9223372036854775808 ≤ have_ ∧ have_ ≤ 9223372036854775807) :
    Calls Tryd.prog 37 #[.pointer (some ⟨B, 0, none⟩), .int .i64 have_, .int .i64 cash] w fun e w' => (∃ t : Nat, e = .returned (.int .i64 t) ∧ Best q a l m d have_ cash t) ∧ Below w.heap.size w w' := by
  have HB0 : Held (Below w.heap.size w ((w.alloc (.cells #[.pointer (some ⟨B, 0, none⟩)] 44)).alloc (.cells #[.int .i64 cash] 2))) := ⟨((Below.refl _ _).alloc (Nat.le_refl _) _).alloc (by simp) _⟩
  have HK0 := Held.mk ((hb.alloc (.cells #[.pointer (some ⟨B, 0, none⟩)] 44)).alloc (.cells #[.int .i64 cash] 2))
  have HN1 : Held (((w.alloc (.cells #[.pointer (some ⟨B, 0, none⟩)] 44)).alloc (.cells #[.int .i64 cash] 2)).cell? ⟨w.heap.size, 0, none⟩ = some (.pointer (some ⟨B, 0, none⟩))) := ⟨((Blk.new w 44 #[.pointer (some ⟨B, 0, none⟩)]).alloc (.cells #[.int .i64 cash] 2)).cell 0⟩
  have HN2 : Held (((w.alloc (.cells #[.pointer (some ⟨B, 0, none⟩)] 44)).alloc (.cells #[.int .i64 cash] 2)).cell? ⟨w.heap.size + 1, 0, none⟩ = some (.int .i64 cash)) := ⟨by
    have := (Blk.new (w.alloc (.cells #[.pointer (some ⟨B, 0, none⟩)] 44)) 2 #[.int .i64 cash]).cell 0
    rw [World.size_alloc] at this
    exact this⟩
  have HC := Held.mk (fun w hb p hp => cost_in B q a l m d p0 p v w hb hq hqm ha hp)
  have HCl := Held.mk (fun x i (hp : d + (i + 1) * l ≤ q) hi hb h1 h2 => closure_in B (w.heap.size) (w.heap.size + 1) q a l m d p0 i cash v x hb h1 h2 hq hqm ha hp hi)
  have hq1 : (q : Int) ≤ 9223372036854775807 := by omega
  have hd1 : (d : Int) ≤ (q : Int) := by omega
  have hl1 : (1 : Int) ≤ (l : Int) := by omega
  have HL := Held.mk hl
  have HD := Held.mk hd
  obtain ⟨hh1, hh2⟩ := hh
  have eD : Held ((q : Int) - (d : Int) = ((q - d : Nat) : Int)) := ⟨by omega⟩
  by_cases c1 : (q : Int) - (d : Int) ≤ have_ ∧ (mny q a d (q - d) : Int) ≤ cash
  · have HBest : Held (Best q a l m d have_ cash (q - d)) := ⟨by unfold Best; rw [if_pos c1]⟩
    obtain ⟨c1, c2⟩ := c1
    have i1 : decide ((q : Int) - (d : Int) ≤ have_) = true := decide_eq_true c1
    have i2 : decide ((mny q a d (q - d) : Int) ≤ cash) = true := decide_eq_true c2
    clear c1 c2 hqm ha hd hl hq hb
    go_enter Tryd.func37, Tryd.ntmps37
    go_wp2
    generalize (w.alloc (.cells #[.pointer (some ⟨B, 0, none⟩)] 44)).alloc (.cells #[.int .i64 cash] 2) = x0 at *
    have k0 := HK0.out.cell 0
    have k4 := HK0.out.cell 4
    simp at k0 k4
    have n1 := HN1.out
    have n2 := HN2.out
    go_quiet (fail)
    go_wp2
    go_quiet ((go_at_call 38; rw [eD.out]; exact quiet_add (HC.out _ (HK0.out.drewN _) _ (by have := HD.out; omega))))
    go_wp2
    go_ret
    exact ⟨⟨_, congrArg (fun x => Ending.returned (Value.int .i64 x)) eD.out, HBest.out⟩, below_drewN (below_drewN HB0.out _) _⟩
  · have hcase : (decide ((q : Int) - (d : Int) ≤ have_) = false) ∨ (decide ((q : Int) - (d : Int) ≤ have_) = true ∧ decide ((mny q a d (q - d) : Int) ≤ cash) = false) := by
      by_cases h1 : (q : Int) - (d : Int) ≤ have_
      · exact .inr ⟨decide_eq_true h1, decide_eq_false (fun h2 => c1 ⟨h1, h2⟩)⟩
      · exact .inl (decide_eq_false h1)
    have HC1 := Held.mk c1
    have hl0 : ((l : Int) == 0) = false := beq_eq_false_iff_ne.2 (by omega)
    clear c1 hqm ha hd hl hq hb
    go_enter Tryd.func37, Tryd.ntmps37
    go_wp2
    generalize (w.alloc (.cells #[.pointer (some ⟨B, 0, none⟩)] 44)).alloc (.cells #[.int .i64 cash] 2) = x0 at *
    have k0 := HK0.out.cell 0
    have k2 := HK0.out.cell 2
    have k3 := HK0.out.cell 3
    have k4 := HK0.out.cell 4
    simp at k0 k2 k3 k4
    have n1 := HN1.out
    have n2 := HN2.out
    go_quiet (fail)
    go_wp2
    have HEL : Held (max (min have_ ((q : Int) - (d : Int) - 1)) 0 / (l : Int) = ((lots q l d have_ : Nat) : Int)) := ⟨by
      unfold lots
      rw [Int.natCast_ediv, Int.toNat_eq_max]⟩
    have HLM : Held (∀ n, n ≤ lots q l d have_ → n * l ≤ q - d) := ⟨fun n hn => lots_le HL.out HD.out hn⟩
    have HLI : Held (∀ n, n ≤ lots q l d have_ → n ≤ q) := ⟨fun n hn => by
      have h1 := HLM.out n hn
      have h2 := Nat.mul_le_mul_left n HL.out
      omega⟩
    have HS : Held (∀ k, Calls Tryd.prog 53 #[.int .i64 (lots q l d have_ : Nat), .func (.func 54) #[] #[.pointer (some ⟨w.heap.size, 0, none⟩), .pointer (some ⟨w.heap.size + 1, 0, none⟩)]] (x0.drewN k)
        fun e w' => (∃ r : Nat, e = .returned (.int .i64 r) ∧ r ≤ lots q l d have_ ∧ (∀ i, i < r → decide (cash < (mny q a d ((i + 1) * l) : Int)) = false) ∧ (r < lots q l d have_ → decide (cash < (mny q a d ((r + 1) * l) : Int)) = true)) ∧ ∃ n, w' = (x0.drewN k).drewN n) := ⟨fun k =>
      search_in w.heap.size (w.heap.size + 1) (lots q l d have_) (fun i => decide (cash < (mny q a d ((i + 1) * l) : Int))) (x0.drewN k) (by have := HLI.out _ (Nat.le_refl _); omega)
        (fun i j hij hj h => by
          have h1 := of_decide_eq_true h
          have h2 := mny_mono (q := q) (a := a) (d := d) (Nat.mul_le_mul_right l (Nat.add_le_add_right hij 1))
          exact decide_eq_true (by omega))
        (fun i k' hi => HCl.out ((x0.drewN k).drewN k') i (by have := HLM.out (i + 1) hi; have := HD.out; omega) (by have := HLI.out (i + 1) hi; omega) ((HK0.out.drewN _).drewN _) n1 n2)⟩
    rcases hcase with i1 | ⟨i1, i2⟩
    · go_quiet (fail)
      go_wp2_with fail
      rw [HEL.out]
      refine (HS.out _).mono ?_
      rintro e w1 ⟨⟨r, rfl, hr, hlo, hup⟩, n3, rfl⟩
      have HLo := Held.mk hlo
      have HUp := Held.mk hup
      have er : (r : Int) * (l : Int) = ((r * l : Nat) : Int) := (Int.natCast_mul _ _).symm
      have b1 : (r : Int) * (l : Int) ≤ 9223372036854775807 := by rw [er]; have := HLM.out r hr; omega
      have b0 : (0 : Int) ≤ (r : Int) * (l : Int) := by rw [er]; omega
      have HER := Held.mk er
      have HR := Held.mk hr
      clear hlo hup er hr
      by_cases hm : m ≤ r * l
      · have im : decide ((m : Int) ≤ (r : Int) * (l : Int)) = true := decide_eq_true (by rw [HER.out]; omega)
        have HBest : Held (Best q a l m d have_ cash (r * l)) := ⟨by
          unfold Best
          rw [if_neg HC1.out]
          exact ⟨r, HR.out, fun i hi => by have := of_decide_eq_false (HLo.out i hi); omega, fun h => of_decide_eq_true (HUp.out h), by rw [if_pos hm]⟩⟩
        clear hm
        go_wp2
        go_ret
        exact ⟨⟨_, congrArg (fun x => Ending.returned (Value.int .i64 x)) HER.out, HBest.out⟩, below_drewN HB0.out _⟩
      · have im : decide ((m : Int) ≤ (r : Int) * (l : Int)) = false := decide_eq_false (by rw [HER.out]; omega)
        have HBest : Held (Best q a l m d have_ cash 0) := ⟨by
          unfold Best
          rw [if_neg HC1.out]
          exact ⟨r, HR.out, fun i hi => by have := of_decide_eq_false (HLo.out i hi); omega, fun h => of_decide_eq_true (HUp.out h), by rw [if_neg hm]⟩⟩
        clear hm
        go_wp2
        go_ret
        exact ⟨⟨0, rfl, HBest.out⟩, below_drewN HB0.out _⟩
    · go_quiet ((go_at_call 38; rw [eD.out]; exact quiet_add (HC.out _ (HK0.out.drewN _) _ (by have := HD.out; omega))))
      go_wp2_with fail
      rw [HEL.out]
      refine (HS.out _).mono ?_
      rintro e w1 ⟨⟨r, rfl, hr, hlo, hup⟩, n3, rfl⟩
      have HLo := Held.mk hlo
      have HUp := Held.mk hup
      have er : (r : Int) * (l : Int) = ((r * l : Nat) : Int) := (Int.natCast_mul _ _).symm
      have b1 : (r : Int) * (l : Int) ≤ 9223372036854775807 := by rw [er]; have := HLM.out r hr; omega
      have b0 : (0 : Int) ≤ (r : Int) * (l : Int) := by rw [er]; omega
      have HER := Held.mk er
      have HR := Held.mk hr
      clear hlo hup er hr
      by_cases hm : m ≤ r * l
      · have im : decide ((m : Int) ≤ (r : Int) * (l : Int)) = true := decide_eq_true (by rw [HER.out]; omega)
        have HBest : Held (Best q a l m d have_ cash (r * l)) := ⟨by
          unfold Best
          rw [if_neg HC1.out]
          exact ⟨r, HR.out, fun i hi => by have := of_decide_eq_false (HLo.out i hi); omega, fun h => of_decide_eq_true (HUp.out h), by rw [if_pos hm]⟩⟩
        clear hm
        go_wp2
        go_ret
        exact ⟨⟨_, congrArg (fun x => Ending.returned (Value.int .i64 x)) HER.out, HBest.out⟩, below_drewN HB0.out _⟩
      · have im : decide ((m : Int) ≤ (r : Int) * (l : Int)) = false := decide_eq_false (by rw [HER.out]; omega)
        have HBest : Held (Best q a l m d have_ cash 0) := ⟨by
          unfold Best
          rw [if_neg HC1.out]
          exact ⟨r, HR.out, fun i hi => by have := of_decide_eq_false (HLo.out i hi); omega, fun h => of_decide_eq_true (HUp.out h), by rw [if_neg hm]⟩⟩
        clear hm
        go_wp2
        go_ret
        exact ⟨⟨0, rfl, HBest.out⟩, below_drewN HB0.out _⟩
end Prt
end Go.Proofs.YtpbkmkclagikhaaDoor
