/- WireFramed: the walk. -/
import Derived.Test.YthkhemcbkcoliaaDoorFrl
import Derived.Test.YthkhemcbkcoliaaDoorCpy
import Derived.Test.YthkhemcbkcoliaaDoorKept
import Derived.Test.YthkhemcbkcoliaaDoorErP
namespace Go.Proofs.YthkhemcbkcoliaaDoor
set_option linter.unusedVariables false
set_option linter.unusedSimpArgs false
namespace Wire
open Go.RowKit Mem Apn Err
theorem frameL_byt (x : Nat) (ps : List Int) (hx : U64 x) (hp : ps.length ≤ 65536) (hb : Byt ps) : Byt (frameL x ps) := by
  have hn : U64 ps.length := by unfold U64; omega
  exact (((Byt.form _ hn).append (Byt.form x hx)).append (Byt.hi _ 4)).append hb
theorem plain_no (k : Int) (h1 : 1 ≤ k) (h2 : k ≤ 24) (w : World) (hg : Laid w) : Calls Tryd.prog 13 #[Er.enc (.no k), .int .i64 k] w fun e w' => e = .returned (.bool true) ∧ Below w.heap.size w w' := by
  have := plain_err _ _ k k w (isErr_errno k) h1 h2 hg
  rw [beq_self_eq_true] at this
  exact this
set_option maxHeartbeats 1000000 in
set_option maxRecDepth 100000 in
theorem framed_no (x : Nat) (A1 A2 : Option Addr) (n1 c1 n2 c2 : Nat) (w : World) (hn : 65536 < n1) :
    Calls Tryd.prog 3 #[.int .u64 x, .slice A1 n1 c1, .slice A2 n2 c2] w fun e w' => e = .returned (.bool true) ∧ Below w.heap.size w w' := by
  have H := Held.mk (frame_no x A1 n1 c1 w hn)
  unfold Er.enc at H
  have hnI : (65536 : Int) < (n1 : Int) := by omega
  clear hn
  go_enter Tryd.func3, Tryd.ntmps3
  go_wp2_with fail
  refine H.out.mono ?_
  rintro e w1 ⟨rfl, hw⟩
  rw [hw]
  clear hw
  go_wp2
  go_ret
  exact ⟨rfl, Below.refl _ _⟩
set_option maxHeartbeats 4000000 in
set_option maxRecDepth 100000 in
theorem framed_in (x : Nat) (A1 A2 : Option Addr) (n1 c1 n2 c2 : Nat) (ps bs : List Int) (w : World) (hg : Laid w) (hx : U64 x) (hr1 : RdN w (fun k => k < w.heap.size) .u8 A1 n1 ps) (hr2 : RdN w (fun k => k < w.heap.size) .u8 A2 n2 bs)
    (hb1 : Byt ps) (hb2 : Byt bs) (hn : n1 ≤ 65536) (hn2 : n2 ≤ 140737488355328) (hc2 : n2 ≤ c2) :
    Calls Tryd.prog 3 #[.int .u64 x, .slice A1 n1 c1, .slice A2 n2 c2] w fun e w' => e = .returned (.bool true) ∧ Below w.heap.size w w' := by
  have hl1 := hr1.len
  have hp : ps.length ≤ 65536 := by omega
  have HFr := Held.mk (frame_in _ x A1 n1 c1 ps w hr1 hn hx hb1)
  have HFB := Held.mk (frameL_byt x ps hx hp hb1)
  have HU := Held.mk (fun l => unf_frame x ps l hx hp hb1)
  have HP := Held.mk (fun i => unf_pre x ps hx hp i)
  have hFl : (frameL x ps).length ≤ 65558 := by
    have h1 := frameL_length x ps
    have h2 := form_length x hx
    have h3 := form_length ps.length (by unfold U64; omega)
    omega
  have hFl6 : 6 ≤ (frameL x ps).length := by
    have h1 := frameL_length x ps
    have h2 := form_pos x
    have h3 := form_pos ps.length
    omega
  generalize frameL x ps = F at *
  have hFI : (F.length : Int) ≤ 65558 := by omega
  have hFI6 : (6 : Int) ≤ (F.length : Int) := by omega
  have hnI : (n1 : Int) ≤ 65536 := by omega
  have hn2I : (n2 : Int) ≤ 140737488355328 := by omega
  have HR1 : Held (∀ W, Below w.heap.size w W → RdN W _ .u8 A1 n1 ps) := ⟨fun W hB => RdV.keep hr1 (Keep.of_below hB (fun k => ¬ k < w.heap.size)) (fun k h h' => h' h)⟩
  have HR2 : Held (∀ W, Below w.heap.size w W → RdN W _ .u8 A2 n2 bs) := ⟨fun W hB => RdV.keep hr2 (Keep.of_below hB (fun k => ¬ k < w.heap.size)) (fun k h h' => h' h)⟩
  have HB2 := Held.mk hb2
  have HL2 := Held.mk hr2.len
  have HG := Held.mk hg
  have HPl := Held.mk (fun W hB => plain_no 2 (by decide) (by decide) W (hg.below hB))
  unfold Er.enc at HPl
  have HC2 := Held.mk hc2
  clear hl1 hg hx hr1 hr2 hb1 hb2 hn hc2
  go_enter Tryd.func3, Tryd.ntmps3
  go_wp2_with fail
  refine HFr.out.mono ?_
  rintro e w1 ⟨v1, rfl, ho1, hb1⟩
  obtain ⟨Af, cf, rfl, hcf, hrf⟩ := RdN.of_own ho1
  have HB1 := Held.mk hb1
  have HRf : Held (∀ W, Below w1.heap.size w1 W → RdN W _ .u8 Af F.length F) := ⟨fun W hB => RdV.keep hrf (Keep.of_below hB (fun _ => False)) (fun _ _ h => h)⟩
  clear ho1 hb1 hrf HFr
  go_wp2_with fail
  refine (copy_any _ Af F.length cf F w1 (HRf.out _ (Below.refl _ _)) (by omega)).mono ?_
  rintro e w2 ⟨v2, rfl, ho2, hb2⟩
  have HB12 := Held.mk hb2
  have HB2w := Held.mk (HB1.out.trans (hb2.mono HB1.out.size))
  have HO2 := Held.mk ho2
  have HRb := Held.mk (HR2.out _ HB2w.out)
  have HCa : Held ((F.length + n2 + (F.length + n2) / 4 + 192) * 1 ≤ 281474976710656) := ⟨by omega⟩
  have HCs : Held (w1.heap.size ≤ w2.heap.size) := ⟨hb2.size⟩
  clear ho2 hb2
  go_wp2_with ((at_builtin; go_loud (refine appN w1.heap.size rfl (.tmp 32) (.tmp 33) 23 5 .u8 1 rfl Tryd.underlying23 info_u8 (by decide) _ F rfl HO2.out _ A2 n2 c2 bs rfl HRb.out HCa.out HCs.out ?_)); (intro v3 w3 ho3 hg3 hat3); (have HO3 := Held.mk ho3); (have HG3 := Held.mk hg3); (clear ho3 hg3 hat3))
  have HB13 : Held (Below w1.heap.size w1 w3) := ⟨((Keep.of_below HB12.out (fun _ => False)).then (Keep.of_grown HG3.out) (fun k hk e => by have := own_ge HO2.out k e; omega)).to_below (fun _ _ h => h)⟩
  obtain ⟨A3, n3, c3, rfl, hn3, hc3, hr3⟩ := rd_own HO3.out
  have h3l : n3 ≤ 281474976710656 := by rw [hn3.out, List.length_append, HL2.out]; omega
  have HUf := unframe_any _ A3 n3 c3 (F ++ bs) w3 hr3 hc3 h3l (HFB.out.append HB2.out)
  rw [HU.out] at HUf
  unfold Er.enc at HUf
  refine HUf.mono ?_
  rintro e w4 ⟨v4, rfl, ho4, hb4⟩
  have HB14 := Held.mk (HB13.out.trans (hb4.mono HB13.out.size))
  obtain ⟨A4, n4, c4, rfl, hn4, hc4, hr4⟩ := rd_own ho4
  have HR4 := Held.mk hr4
  have HB4 := Held.mk (HB1.out.trans (HB14.out.mono HB1.out.size))
  have h4l : n4 ≤ 9223372036854775807 := by rw [hn4.out]; simp only; omega
  have hS := Kit.same_any _ _ A4 A1 n4 n1 c4 c1 ps ps w4 hr4 (HR1.out _ HB4.out) h4l (by omega)
  rw [decide_eq_true rfl] at hS
  have HS := Held.mk hS
  clear ho4 hb4 hr3 hr4 HUf h3l hS h4l
  go_wp2_with fail
  refine HS.out.mono ?_
  rintro e w5 ⟨rfl, m5, rfl⟩
  have HBW : Held (Below w1.heap.size w1 (w4.drewN m5)) := ⟨Aps.below_drwN HB14.out _⟩
  clear HB14 HB4 HR4 HS
  generalize w4.drewN m5 = W at *
  go_wp2_with fail
  go_loopw [13] (fun i wr => ∃ k : Nat, i = .int .i64 k ∧ k ≤ F.length ∧ Held (Below w1.heap.size w1 wr)) (fun i _ => F.length - (intOf i).toNat)
  case atStart => exact ⟨0, rfl, Nat.zero_le _, HBW⟩
  case round =>
    clear HBW
    obtain ⟨k, rfl, hk, HB⟩ := hrel
    by_cases hlt : k < F.length
    · have hw1 : IntKind.i64.wrap ((F.length : Int) - 40) = (F.length : Int) - 40 := IntWalk.i64_in _ ⟨by omega, by omega⟩
      have HRk : Held (RdN wr _ .u8 Af k (F.take k)) := ⟨by
        have h1 := RdV.front (HRf.out _ HB.out) (Nat.le_of_lt hlt)
        rw [Nat.mul_one] at h1
        unfold RdN
        simpa [nums, List.map_take] using h1⟩
      have hUk := unframe_any _ Af k cf (F.take k) wr HRk.out (by omega) (by omega) (HFB.out.take k)
      rw [HP.out k hlt] at hUk
      unfold Er.enc at hUk
      have HUk := Held.mk hUk
      have HPk := Held.mk (fun W hB => HPl.out W (HB1.out.trans ((HB.out.trans hB).mono HB1.out.size)))
      clear hUk
      by_cases hA : 40 < k
      · have hAI : (40 : Int) < (k : Int) := by omega
        by_cases hC : (k : Int) < (F.length : Int) - 40
        · go_wp2_with fail
          go_roundw
          case rel => exact ⟨k + 1, by go_num, by omega, HB⟩
          case measure => simp [intOf]; omega
        · go_wp2_with fail
          refine HUk.out.mono ?_
          rintro e w5 ⟨v5, rfl, _, hb5⟩
          have HB5 := Held.mk (HB.out.trans (hb5.mono HB.out.size))
          have HPp := Held.mk (HPk.out w5 (hb5.mono HB.out.size))
          clear hb5
          go_wp2_with fail
          refine HPp.out.mono ?_
          rintro e w6 ⟨rfl, hb6⟩
          have HB6 := Held.mk (HB5.out.trans (hb6.mono HB5.out.size))
          clear hb6
          go_wp2_with fail
          go_roundw
          case rel => exact ⟨k + 1, by go_num, by omega, HB6⟩
          case measure => simp [intOf]; omega
      · have hAI : ¬ (40 : Int) < (k : Int) := by omega
        go_wp2_with fail
        refine HUk.out.mono ?_
        rintro e w5 ⟨v5, rfl, _, hb5⟩
        have HB5 := Held.mk (HB.out.trans (hb5.mono HB.out.size))
        have HPp := Held.mk (HPk.out w5 (hb5.mono HB.out.size))
        clear hb5
        go_wp2_with fail
        refine HPp.out.mono ?_
        rintro e w6 ⟨rfl, hb6⟩
        have HB6 := Held.mk (HB5.out.trans (hb6.mono HB5.out.size))
        clear hb6
        go_wp2_with fail
        go_roundw
        case rel => exact ⟨k + 1, by go_num, by omega, HB6⟩
        case measure => simp [intOf]; omega
    · have HBe : Held (Below w.heap.size w wr) := ⟨HB1.out.trans (HB.out.mono HB1.out.size)⟩
      have HRe := Held.mk (HR2.out _ HBe.out)
      have hUe := unframe_any _ A2 n2 c2 bs wr HRe.out HC2.out (by omega) HB2.out
      obtain ⟨y, qs, q, er, hu⟩ : ∃ y qs q er, unf bs = (y, qs, q, er) := ⟨_, _, _, _, rfl⟩
      rw [hu] at hUe
      cases er with
      | no j =>
        unfold Er.enc at hUe
        have HUe := Held.mk hUe
        clear hUe hu
        go_wp2_with fail
        refine HUe.out.mono ?_
        rintro e w5 ⟨v5, rfl, _, hb5⟩
        have HB5 := Held.mk (HBe.out.trans (hb5.mono HBe.out.size))
        clear hb5
        go_wp2
        go_ret
        exact ⟨rfl, HB5.out⟩
      | ref s j =>
        unfold Er.enc at hUe
        have HUe := Held.mk hUe
        clear hUe hu
        go_wp2_with fail
        refine HUe.out.mono ?_
        rintro e w5 ⟨v5, rfl, _, hb5⟩
        have HB5 := Held.mk (HBe.out.trans (hb5.mono HBe.out.size))
        clear hb5
        go_wp2
        go_ret
        exact ⟨rfl, HB5.out⟩
      | ok =>
        obtain ⟨f1, f2, f3, f4, f5⟩ := unf_is bs HB2.out y qs q hu
        unfold Er.enc at hUe
        have HUe := Held.mk hUe
        have H1 := Held.mk f1
        have H2 := Held.mk f2
        have H3 := Held.mk f3
        have H5 := Held.mk f5
        have hq : q ≤ n2 := by have := HL2.out; omega
        have hqI : (q : Int) ≤ (n2 : Int) := by omega
        clear hUe hu f1 f2 f3 f4 f5
        go_wp2_with fail
        refine HUe.out.mono ?_
        rintro e w5 ⟨v5, rfl, ho5, hb5⟩
        obtain ⟨A5, n5, c5, rfl, hn5, hc5, hr5⟩ := rd_own ho5
        have HB5 := Held.mk (HBe.out.trans (hb5.mono HBe.out.size))
        have HF5 := Held.mk (frame_in _ y A5 n5 c5 qs w5 hr5 (by rw [hn5.out]; exact H2.out) H1.out H3.out)
        clear ho5 hb5 hr5
        go_wp2_with fail
        refine HF5.out.mono ?_
        rintro e w6 ⟨v6, rfl, ho6, hb6⟩
        rw [H5.out] at ho6
        obtain ⟨A6, n6, c6, rfl, hn6, hc6, hr6⟩ := rd_own ho6
        have HB6 := Held.mk (HB5.out.trans (hb6.mono HB5.out.size))
        have HRq : Held (RdN w6 _ .u8 A2 q (bs.take q)) := ⟨by
          have h1 := RdV.front (HR2.out _ HB6.out) hq
          rw [Nat.mul_one] at h1
          unfold RdN
          simpa [nums, List.map_take] using h1⟩
        have hn6l : n6 ≤ 9223372036854775807 := by rw [hn6.out, List.length_take]; omega
        have hS6 := Kit.same_any _ _ A6 A2 n6 q c6 c2 (bs.take q) (bs.take q) w6 hr6 HRq.out hn6l (by omega)
        rw [decide_eq_true rfl] at hS6
        have HS6 := Held.mk hS6
        have hqc : q ≤ c2 := by have := HC2.out; omega
        clear ho6 hb6 hr6 hS6 hn6l
        go_wp2_with fail
        refine HS6.out.mono ?_
        rintro e w7 ⟨rfl, m7, rfl⟩
        go_wp2
        go_ret
        exact ⟨rfl, Aps.below_drwN HB6.out _⟩
theorem byt_wf {l : List Int} (h : ∀ x ∈ l, (Lit.int .u8 x).wf = true) : Byt l := fun c hc => by
  have := h c hc
  simp [Lit.wf, IntKind.min, IntKind.max, IntKind.signed, IntKind.bits] at this
  omega
theorem framed_any (a0 : Int) (A1 A2 : Option Addr) (n1 c1 n2 c2 : Nat) (ps bs : List Int) (w : World) (hg : Laid w) (hx : (Lit.int .u64 a0).wf = true) (hr1 : RdN w (fun k => k < w.heap.size) .u8 A1 n1 ps) (hr2 : RdN w (fun k => k < w.heap.size) .u8 A2 n2 bs)
    (hb1 : ∀ x ∈ ps, (Lit.int .u8 x).wf = true) (hb2 : ∀ x ∈ bs, (Lit.int .u8 x).wf = true) (hn2 : n2 ≤ 140737488355328) (hc2 : n2 ≤ c2) :
    Calls Tryd.prog 3 #[.int .u64 a0, .slice A1 n1 c1, .slice A2 n2 c2] w fun e w' => e = .returned (.bool true) ∧ Below w.heap.size w w' := by
  obtain ⟨h0, hU⟩ := wf_u64 hx
  obtain ⟨x, rfl⟩ : ∃ x : Nat, a0 = (x : Int) := ⟨a0.toNat, by omega⟩
  rw [Int.toNat_natCast] at hU
  by_cases hn : 65536 < n1
  · exact framed_no x A1 A2 n1 c1 n2 c2 w hn
  · exact framed_in x A1 A2 n1 c1 n2 c2 ps bs w hg hU hr1 hr2 (byt_wf hb1) (byt_wf hb2) (by omega) hn2 hc2
end Wire
end Go.Proofs.YthkhemcbkcoliaaDoor
