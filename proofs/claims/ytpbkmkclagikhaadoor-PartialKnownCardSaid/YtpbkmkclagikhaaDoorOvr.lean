/- The document's quotient of a wide number, bit by bit: walked. -/
import Derived.Test.YtpbkmkclagikhaaDoorWid
import Derived.Deep.DeepCutAuto
import Derived.RegionTactic
namespace Go.Proofs.YtpbkmkclagikhaaDoor
set_option linter.unusedVariables false
set_option linter.unusedSimpArgs false
namespace Wid
open Go.RowKit Mem Dvs
theorem results_cell_tmp {P : Program} {fn : Func} {p t : Tmp} {ty : TypeId} (h : fn.results = #[.cell p ty, .tmp t]) (tmps : Array Value) (w : World) (g : Nat) (tt : TypeId) (cs : Array Value) (fr : Nat × Nat) (d : TypeDesc)
    (hp : tmps.getD p undef = .pointer (some ⟨g, 0, none⟩)) (hg : w.heap[g]? = some (.cells cs tt fr))
    (hu : P.underlying ty = some d) (hd : (match d with | .struct _ | .array _ _ => true | _ => false) = true) (hi : (P.info? ty).map (·.size) = some cs.size) :
    (results fn tmps).run P w = .ok (.tuple #[.agg cs, tmps.getD t undef]) w := by
  have hp' : tmps[p]?.getD undef = .pointer (some ⟨g, 0, none⟩) := by simpa using hp
  simp [results, h, hp', asAddr, run_loadVar_row w g tt ty cs fr d hg hu hd hi]
theorem below_drew {B : Nat} {a w : World} (h : Below B a w) : Below B a w.drew := ⟨h.os, h.tape, h.output, h.size, h.block⟩
def wcells (n : Nat) : Array Value := #[.int .u64 (hi n), .int .u64 (lo n)]
/-- Where the division stands: its variables. -/
structure OvSt (wx w : World) (n Q R : Nat) : Prop where
  b2 : Blk wx w.heap.size 124 (wcells n)
  b4 : Blk wx (w.heap.size + 1) 124 #[.int .u64 0, .int .u64 0]
  b6 : Blk wx (w.heap.size + 1 + 1) 124 (wcells Q)
  b7 : Blk wx (w.heap.size + 1 + 1 + 1) 124 (wcells R)
  be : Below w.heap.size w wx
section
variable {wx wy w : World} {n Q R : Nat}
theorem OvSt.below (h : OvSt wx w n Q R) (hb : Below wx.heap.size wx wy) : OvSt wy w n Q R :=
  ⟨h.b2.keep (Keep.of_below hb (fun _ => False)) (fun h => h), h.b4.keep (Keep.of_below hb (fun _ => False)) (fun h => h), h.b6.keep (Keep.of_below hb (fun _ => False)) (fun h => h), h.b7.keep (Keep.of_below hb (fun _ => False)) (fun h => h), h.be.trans (hb.mono h.be.size)⟩
theorem OvSt.set7 (h : OvSt wx w n Q R) (X : Nat) {a b : Nat} (ha : a = hi X) (hb : b = lo X) : OvSt ((wx.setCell ⟨w.heap.size + 1 + 1 + 1, 0, none⟩ (.int .u64 a)).setCell ⟨w.heap.size + 1 + 1 + 1, 1, none⟩ (.int .u64 b)) w n Q X := by
  subst ha; subst hb
  exact ⟨(h.b2.far (by simp; omega) _).far (by simp; omega) _, (h.b4.far (by simp) _).far (by simp) _, (h.b6.far (by simp) _).far (by simp) _, (h.b7.set_ 0 _).set_ 1 _, (h.be.setCell (by simp; omega) _).setCell (by simp; omega) _⟩
theorem OvSt.set6 (h : OvSt wx w n Q R) (X : Nat) {a b : Nat} (ha : a = hi X) (hb : b = lo X) : OvSt ((wx.setCell ⟨w.heap.size + 1 + 1, 0, none⟩ (.int .u64 a)).setCell ⟨w.heap.size + 1 + 1, 1, none⟩ (.int .u64 b)) w n X R := by
  subst ha; subst hb
  exact ⟨(h.b2.far (by simp; omega) _).far (by simp; omega) _, (h.b4.far (by simp) _).far (by simp) _, (h.b6.set_ 0 _).set_ 1 _, (h.b7.far (by simp) _).far (by simp) _, (h.be.setCell (by simp; omega) _).setCell (by simp; omega) _⟩
theorem OvSt.lo7 (h : OvSt wx w n Q R) (X : Nat) {b : Nat} (ha : hi R = hi X) (hb : b = lo X) : OvSt (wx.setCell ⟨w.heap.size + 1 + 1 + 1, 1, none⟩ (.int .u64 b)) w n Q X := by
  subst hb
  have h7 := h.b7.set_ 1 (.int .u64 (lo X))
  exact ⟨h.b2.far (by simp; omega) _, h.b4.far (by simp) _, h.b6.far (by simp) _, by simpa [wcells, ha] using h7, h.be.setCell (by simp; omega) _⟩
theorem OvSt.lo6 (h : OvSt wx w n Q R) (X : Nat) {b : Nat} (ha : hi Q = hi X) (hb : b = lo X) : OvSt (wx.setCell ⟨w.heap.size + 1 + 1, 1, none⟩ (.int .u64 b)) w n X R := by
  subst hb
  have h6 := h.b6.set_ 1 (.int .u64 (lo X))
  exact ⟨h.b2.far (by simp; omega) _, h.b4.far (by simp) _, by simpa [wcells, ha] using h6, h.b7.far (by simp) _, h.be.setCell (by simp; omega) _⟩
end
theorem bit_step (n c j : Nat) (hc : 0 < c) : n / 2 ^ j = n / 2 ^ (j + 1) * 2 + n / 2 ^ j % 2 ∧
    ((n / 2 ^ (j + 1) % c + n / 2 ^ (j + 1) % c + n / 2 ^ j % 2 < c ∧ n / 2 ^ j / c = n / 2 ^ (j + 1) / c + n / 2 ^ (j + 1) / c ∧ n / 2 ^ j % c = n / 2 ^ (j + 1) % c + n / 2 ^ (j + 1) % c + n / 2 ^ j % 2) ∨
      (c ≤ n / 2 ^ (j + 1) % c + n / 2 ^ (j + 1) % c + n / 2 ^ j % 2 ∧ n / 2 ^ j / c = n / 2 ^ (j + 1) / c + n / 2 ^ (j + 1) / c + 1 ∧ n / 2 ^ j % c = n / 2 ^ (j + 1) % c + n / 2 ^ (j + 1) % c + n / 2 ^ j % 2 - c)) := by
  have e : n / 2 ^ (j + 1) = n / 2 ^ j / 2 := by rw [Nat.div_div_eq_div_mul, Nat.pow_succ]
  rw [e]
  generalize n / 2 ^ j = A
  refine ⟨by omega, ?_⟩
  have hd := Nat.div_add_mod (A / 2) c
  have hm := Nat.mod_lt (A / 2) hc
  have hA : A = A / 2 * 2 + A % 2 := by omega
  have ht := Nat.mod_lt A (show 0 < 2 by decide)
  generalize A / 2 = B at *
  generalize A % 2 = t at *
  generalize hQ : B / c = Q at *
  generalize hR : B % c = R at *
  by_cases h : R + R + t < c
  · refine .inl ⟨h, ?_, ?_⟩
    · rw [hA, ← hd, show (c * Q + R) * 2 + t = (R + R + t) + c * (Q + Q) from by rw [Nat.mul_add]; omega, Nat.add_mul_div_left _ _ hc, Nat.div_eq_of_lt h]; omega
    · rw [hA, ← hd, show (c * Q + R) * 2 + t = (R + R + t) + c * (Q + Q) from by rw [Nat.mul_add]; omega, Nat.add_mul_mod_self_left, Nat.mod_eq_of_lt h]
  · have h2 : R + R + t - c < c := by omega
    have e2 : (c * Q + R) * 2 + t = (R + R + t - c) + c * (Q + Q + 1) := by
      rw [Nat.mul_add, Nat.mul_add, Nat.mul_one]; omega
    refine .inr ⟨by omega, ?_, ?_⟩
    · rw [hA, ← hd, e2, Nat.add_mul_div_left _ _ hc, Nat.div_eq_of_lt h2]; omega
    · rw [hA, ← hd, e2, Nat.add_mul_mod_self_left, Nat.mod_eq_of_lt h2]
theorem bit_high (n j : Nat) (h : 64 ≤ j) : n / 2 ^ j = hi n / 2 ^ (j - 64) := by
  unfold hi
  rw [Nat.div_div_eq_div_mul, show (18446744073709551616 : Nat) = 2 ^ 64 from rfl, ← Nat.pow_add, show 64 + (j - 64) = j from by omega]
theorem bit_low (n j : Nat) (h : j < 64) : n / 2 ^ j % 2 = lo n / 2 ^ j % 2 := by
  have e : n = lo n + 2 ^ j * (hi n * 2 ^ (64 - j)) := by
    have h1 := hi_lo n
    have h2 : 2 ^ j * (hi n * 2 ^ (64 - j)) = hi n * 18446744073709551616 := by
      rw [Nat.mul_left_comm, ← Nat.pow_add, show j + (64 - j) = 64 from by omega]
    omega
  have e2 : hi n * 2 ^ (64 - j) = 2 * (hi n * 2 ^ (63 - j)) := by
    rw [show 64 - j = 63 - j + 1 from by omega, Nat.pow_succ]
    rw [← Nat.mul_assoc, Nat.mul_comm]
  have e3 : n / 2 ^ j = lo n / 2 ^ j + 2 * (hi n * 2 ^ (63 - j)) := by
    conv => lhs; rw [e]
    rw [Nat.add_mul_div_left _ _ (Nat.pow_pos (by decide)), e2]
  rw [e3, Nat.add_mul_mod_self_left]
theorem shr_cast (x j : Nat) : ((x : Int) / 2 ^ j).tmod 2 = ((x / 2 ^ j % 2 : Nat) : Int) := by
  rw [show (x : Int) / 2 ^ j = ((x / 2 ^ j : Nat) : Int) from by rw [Int.natCast_ediv, Int.natCast_pow]; rfl]
  exact Int.tmod_eq_emod_of_nonneg (Int.natCast_nonneg _)
theorem add_bit {R t : Nat} (ht : t < 2) : hi (R + R) = hi (R + R + t) ∧ IntKind.u64.wrap ((lo (R + R) : Int) + (t : Int)) = (lo (R + R + t) : Int) := by
  refine ⟨?_, ?_⟩
  · unfold hi; omega
  · rw [wrap_u64]; unfold lo; omega
theorem wide_small (x : Nat) (h : x < 18446744073709551616) : Value.agg #[.int .u64 0, .int .u64 x] = wd x := by unfold wd; rw [hi_small h, lo_small h]; rfl
set_option maxHeartbeats 16000000 in
set_option maxRecDepth 100000 in
theorem over_in (n c : Nat) (w : World) (hn : n < top) (hc : 0 < c) (hcm : c ≤ 9223372036854775807) :
    Calls Tryd.prog 59 #[wd n, .int .u64 c] w fun e w' => e = .returned (.tuple #[wd (n / c), .int .u64 (n % c : Nat)]) ∧ Below w.heap.size w w' := by
  have HN := Held.mk hn
  have HC := Held.mk hc
  have HCM := Held.mk hcm
  have hwn : wd n = .agg #[.int .u64 (hi n), .int .u64 (lo n)] := rfl
  rw [hwn]
  have HS : Held (OvSt ((((w.alloc (.cells #[.int .u64 (hi n), .int .u64 (lo n)] 124)).alloc (.cells #[.int .u64 0, .int .u64 0] 124)).alloc (.cells #[.int .u64 0, .int .u64 0] 124)).alloc (.cells #[.int .u64 0, .int .u64 0] 124)) w n 0 0) := ⟨by
    have b2 := ((((Blk.new w 124 #[.int .u64 (hi n), .int .u64 (lo n)]).alloc (.cells #[.int .u64 0, .int .u64 0] 124)).alloc (.cells #[.int .u64 0, .int .u64 0] 124)).alloc (.cells #[.int .u64 0, .int .u64 0] 124))
    have b4 := (((Blk.new (w.alloc (.cells #[.int .u64 (hi n), .int .u64 (lo n)] 124)) 124 #[.int .u64 0, .int .u64 0]).alloc (.cells #[.int .u64 0, .int .u64 0] 124)).alloc (.cells #[.int .u64 0, .int .u64 0] 124))
    have b6 := ((Blk.new ((w.alloc (.cells #[.int .u64 (hi n), .int .u64 (lo n)] 124)).alloc (.cells #[.int .u64 0, .int .u64 0] 124)) 124 #[.int .u64 0, .int .u64 0]).alloc (.cells #[.int .u64 0, .int .u64 0] 124))
    have b7 := (Blk.new (((w.alloc (.cells #[.int .u64 (hi n), .int .u64 (lo n)] 124)).alloc (.cells #[.int .u64 0, .int .u64 0] 124)).alloc (.cells #[.int .u64 0, .int .u64 0] 124)) 124 #[.int .u64 0, .int .u64 0])
    simp only [World.size_alloc] at b4 b6 b7
    exact ⟨b2, b4, b6, b7, ((((Below.refl _ _).alloc (Nat.le_refl _) _).alloc (by simp) _).alloc (by simp; omega) _).alloc (by simp; omega) _⟩⟩
  clear hn hc hcm hwn
  go_enter Tryd.func59, Tryd.ntmps59
  go_wp2_with fail
  generalize (((w.alloc (.cells #[.int .u64 (hi n), .int .u64 (lo n)] 124)).alloc (.cells #[.int .u64 0, .int .u64 0] 124)).alloc (.cells #[.int .u64 0, .int .u64 0] 124)).alloc (.cells #[.int .u64 0, .int .u64 0] 124) = w0 at *
  go_loopw [8] (fun i wr => ∃ k : Nat, i = .int .i64 ((k : Int) - 1) ∧ k ≤ 128 ∧ Held (OvSt wr w n (n / 2 ^ k / c) (n / 2 ^ k % c))) (fun i _ => (intOf i + 1).toNat)
  case atStart =>
    refine ⟨128, rfl, Nat.le_refl _, ?_⟩
    have : n / 2 ^ 128 = 0 := Nat.div_eq_of_lt HN.out
    rw [this, Nat.zero_div, Nat.zero_mod]
    exact HS
  case round =>
    obtain ⟨k, rfl, hk, HS⟩ := hrel
    rcases Nat.eq_zero_or_pos k with h0 | h0
    · subst h0
      have e1 : n / 2 ^ 0 = n := by simp
      rw [e1] at HS
      have HWn : Held (∃ q1 q2 : Nat, wd (n / c) = .agg #[.int .u64 q1, .int .u64 q2] ∧ q1 = hi (n / c) ∧ q2 = lo (n / c)) := ⟨_, _, rfl, rfl, rfl⟩
      have hlr : n % c = lo (n % c) := (lo_small (by have := Nat.mod_lt n HC.out; have := HCM.out; omega)).symm
      have HLR := Held.mk hlr
      clear hlr
      have k2 := HS.out.b7.cell 1
      have k4 := HS.out.b6.cell 0
      have k5 := HS.out.b6.cell 1
      have k6 := HS.out.b4.cell 0
      have k7 := HS.out.b4.cell 1
      have f6 := HS.out.b4.frozen 0
      have f7 := HS.out.b4.frozen 1
      simp [wcells] at k2 k4 k5 k6 k7
      go_wp2
      go_region
      all_goals
        go_wp2
        exact bodyPost_ret (results_cell_tmp rfl _ _ (w.heap.size + 1) 124 #[.int .u64 (hi (n / c)), .int .u64 (lo (n / c))] (0, 0) _ rfl ((HS.out.b4.set_ 0 (.int .u64 (hi (n / c)))).set_ 1 (.int .u64 (lo (n / c)))) Tryd.underlying124 rfl (by kernel_rfl)) rfl
          ⟨congrArg (fun x : Nat => Ending.returned (.tuple #[wd (n / c), .int .u64 x])) HLR.out.symm, below_drew ((HS.out.be.setCell (p := ⟨w.heap.size + 1, 0, none⟩) (by simp) _).setCell (p := ⟨w.heap.size + 1, 1, none⟩) (by simp) _)⟩
    · obtain ⟨j, rfl⟩ : ∃ j, k = j + 1 := ⟨k - 1, by omega⟩
      obtain ⟨_, hst⟩ := bit_step n c j HC.out
      have hRc : n / 2 ^ (j + 1) % c < c := Nat.mod_lt _ HC.out
      have hQn : n / 2 ^ j / c < top := Nat.lt_of_le_of_lt (Nat.le_trans (Nat.div_le_self _ _) (Nat.div_le_self _ _)) HN.out
      have ht2 : n / 2 ^ j % 2 < 2 := Nat.mod_lt _ (by decide)
      have eH : 64 ≤ j → ((hi n : Int) / 2 ^ (j - 64)).tmod 2 = ((n / 2 ^ j % 2 : Nat) : Int) := fun h => by rw [shr_cast, bit_high n j h]
      have eL : j < 64 → ((lo n : Int) / 2 ^ j).tmod 2 = ((n / 2 ^ j % 2 : Nat) : Int) := fun h => by rw [shr_cast, bit_low n j h]
      generalize hQ : n / 2 ^ (j + 1) / c = Q at *
      generalize hR : n / 2 ^ (j + 1) % c = R at *
      generalize n / 2 ^ j % 2 = t at *
      generalize hQ' : n / 2 ^ j / c = Q' at *
      generalize hR' : n / 2 ^ j % c = R' at *
      have HQ' := Held.mk hQ'
      have HR' := Held.mk hR'
      clear hQ' hR'
      have HQn := Held.mk hQn
      have HST := Held.mk hst
      have hRm : R + R + t < 18446744073709551616 := by have := HCM.out; omega
      have HRM := Held.mk hRm
      obtain ⟨hb1, hb2⟩ := add_bit (R := R) ht2
      have HB1 := Held.mk hb1
      have HB2 := Held.mk hb2
      have HP1 := Held.mk (fun w => plus_in R R w (by unfold top; omega))
      have HP2 := Held.mk (fun w => plus_in Q Q w (by rcases hst with ⟨_, h, _⟩ | ⟨_, h, _⟩ <;> omega))
      have HLs := Held.mk (fun w => less_in (R + R + t) c w)
      have HMi := Held.mk (fun w (h : c ≤ R + R + t) => minus_in (R + R + t) c w (by unfold top; omega) h)
      rw [← wide_small c (by have := HCM.out; omega)] at HLs HMi
      unfold wd at HP1 HP2 HLs HMi
      have k0 := HS.out.b2.cell 0
      have k1 := HS.out.b2.cell 1
      have k2 := HS.out.b7.cell 0
      have k3 := HS.out.b7.cell 1
      simp [wcells] at k0 k1 k2 k3
      clear hst hRc hQn ht2 hRm hb1 hb2 hQ hR
      go_upto_if 15 with fail
      go_cut [9] (fun s wx => s = .int .u64 t ∧ wx = wr)
      case first =>
        by_cases h64 : 64 ≤ j
        · have e := eH h64
          clear eH eL
          go_wp2_with fail
          go_meet
          exact ⟨rfl, rfl⟩
        · have e := eL (by omega)
          clear eH eL
          go_wp2_with fail
          go_meet
          exact ⟨rfl, rfl⟩
      case rest =>
        obtain ⟨rfl, rfl⟩ := hcut
        clear eH eL
        go_wp2_with fail
        refine (HP1.out _).mono ?_
        rintro e w1 ⟨rfl, hb⟩
        have HS1 := Held.mk (HS.out.below hb)
        clear hb k0 k1 k2 k3 HP1
        have k2 := HS1.out.b7.cell 0
        have k3 := HS1.out.b7.cell 1
        have f2 := HS1.out.b7.frozen 0
        have f3 := HS1.out.b7.frozen 1
        have k4 := HS1.out.b6.cell 0
        have k5 := HS1.out.b6.cell 1
        simp [wcells] at k2 k3 k4 k5
        have hb2 := HB2.out
        have HS3 := Held.mk ((HS1.out.set7 (R + R) rfl rfl).lo7 (R + R + t) HB1.out rfl)
        go_wp2_with fail
        generalize ((w1.setCell ⟨w.heap.size + 1 + 1 + 1, 0, none⟩ (.int .u64 (hi (R + R)))).setCell ⟨w.heap.size + 1 + 1 + 1, 1, none⟩ (.int .u64 (lo (R + R)))).setCell ⟨w.heap.size + 1 + 1 + 1, 1, none⟩ (.int .u64 (lo (R + R + t))) = w3 at *
        refine (HP2.out _).mono ?_
        rintro e w4 ⟨rfl, hb⟩
        have HS4 := Held.mk (HS3.out.below hb)
        clear hb k2 k3 k4 k5 f2 f3 HP2 HS3 HS1 HB1 HB2 hb2
        have k4 := HS4.out.b6.cell 0
        have k5 := HS4.out.b6.cell 1
        have f4 := HS4.out.b6.frozen 0
        have f5 := HS4.out.b6.frozen 1
        have k2 := HS4.out.b7.cell 0
        have k3 := HS4.out.b7.cell 1
        simp [wcells] at k2 k3 k4 k5
        have HS5 := Held.mk (HS4.out.set6 (Q + Q) rfl rfl)
        go_wp2_with fail
        generalize (w4.setCell ⟨w.heap.size + 1 + 1, 0, none⟩ (.int .u64 (hi (Q + Q)))).setCell ⟨w.heap.size + 1 + 1, 1, none⟩ (.int .u64 (lo (Q + Q))) = w5 at *
        refine (HLs.out _).mono ?_
        rintro e w6 ⟨rfl, hb⟩
        have HS6 := Held.mk (HS5.out.below hb)
        clear hb k2 k3 k4 k5 f4 f5 HLs HS5 HS4
        rcases HST.out with ⟨g1, g2, g3⟩ | ⟨g1, g2, g3⟩
        · rw [decide_eq_true g1]
          have HF : Held (OvSt w6 w n (Q') (R')) := ⟨by rw [g2, g3]; exact HS6.out⟩
          clear g1 g2 g3
          go_wp2
          go_roundw
          case rel => exact ⟨j, congrArg (Value.int .i64) (by omega), by omega, by rw [HQ'.out, HR'.out]; exact HF⟩
          case measure => first | (simp [intOf]; done) | (simp [intOf]; omega)
        · rw [decide_eq_false (show ¬ R + R + t < c by omega)]
          have HG1 := Held.mk g1
          have k2 := HS6.out.b7.cell 0
          have k3 := HS6.out.b7.cell 1
          simp [wcells] at k2 k3
          go_wp2_with fail
          refine (HMi.out _ HG1.out).mono ?_
          rintro e w7 ⟨rfl, hb⟩
          have HS7 := Held.mk (HS6.out.below hb)
          clear hb k2 k3 HMi HS6
          have k2 := HS7.out.b7.cell 0
          have k3 := HS7.out.b7.cell 1
          have f2 := HS7.out.b7.frozen 0
          have f3 := HS7.out.b7.frozen 1
          have k4 := HS7.out.b6.cell 0
          have k5 := HS7.out.b6.cell 1
          have f4 := HS7.out.b6.frozen 0
          have f5 := HS7.out.b6.frozen 1
          simp [wcells] at k2 k3 k4 k5
          obtain ⟨hb1, hb2⟩ := add_bit (R := Q) (t := 1) (by decide)
          have hb2' : IntKind.u64.wrap ((lo (Q + Q) : Int) + 1) = (lo (Q + Q + 1) : Int) := hb2
          have HF : Held (OvSt (((w7.setCell ⟨w.heap.size + 1 + 1 + 1, 0, none⟩ (.int .u64 (hi (R + R + t - c)))).setCell ⟨w.heap.size + 1 + 1 + 1, 1, none⟩ (.int .u64 (lo (R + R + t - c)))).setCell ⟨w.heap.size + 1 + 1, 1, none⟩ (.int .u64 (lo (Q + Q + 1)))) w n Q' R') := ⟨by
            rw [g2, g3]
            exact (HS7.out.set7 (R + R + t - c) rfl rfl).lo6 (Q + Q + 1) hb1 rfl⟩
          clear hb1 hb2 g1 g2 g3
          go_wp2
          go_roundw
          case rel => exact ⟨j, congrArg (Value.int .i64) (by omega), by omega, by rw [HQ'.out, HR'.out]; exact HF⟩
          case measure => first | (simp [intOf]; done) | (simp [intOf]; omega)
end Wid
end Go.Proofs.YtpbkmkclagikhaaDoor
