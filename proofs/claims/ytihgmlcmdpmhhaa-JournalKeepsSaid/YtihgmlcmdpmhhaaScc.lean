/- The program's Scan: walked. -/
import Derived.Test.YtihgmlcmdpmhhaaScb
import Derived.Test.YtihgmlcmdpmhhaaDdo
namespace Go.Proofs.Ytihgmlcmdpmhhaa
set_option linter.unusedVariables false
set_option linter.unusedSimpArgs false
namespace Jrn
open Go.RowKit Mem Apn Wire Aps AptBytes
def wNumber : ByteArray := ⟨#[110, 117, 109, 98, 101, 114]⟩
def Jr.enc : Jr → Value
  | .w e => e.enc
  | .num => .iface 71 (.agg #[.string wNumber, .int .i64 4])
set_option maxHeartbeats 4000000 in
set_option maxRecDepth 100000 in
theorem scan_any (ok : Nat → Prop) (A : Option Addr) (n c : Nat) (b : List Int) (w : World) (hr : RdN w ok .u8 A n b) (hc : n ≤ c) (hn : n ≤ 1000000000) (hb : Byt b) :
    Calls Try.prog 7 #[.slice A n c] w fun e w' => ∃ v, e = .returned (.tuple #[v, .int .i64 (scan b).2.1, (scan b).2.2.enc]) ∧ Rows w' w.heap.size v (scan b).1 ∧ Below w.heap.size w w' := by
  have hlen := hr.len
  have HR := Held.mk hr
  have HBy := Held.mk hb
  have HLn : Held (b.length = n) := ⟨hlen⟩
  clear hr hb hlen
  go_enter Try.func7, Try.ntmps7
  go_wp2_with fail
  go_loopw [5, 6] (fun v i wr => ∃ (k : Nat) (L : List (List Int)), i = .int .i64 k ∧ k ≤ n ∧ Held (Sc b L k) ∧ Held (Rows wr w.heap.size v L) ∧ Held (Below w.heap.size w wr)) (fun _ i _ => n - (intOf i).toNat)
  case atStart => exact ⟨0, [], rfl, by omega, ⟨Sc.start b⟩, ⟨Rows.nil _ _⟩, ⟨Below.refl _ _⟩⟩
  case round =>
    obtain ⟨k, L, rfl, hk, HS, HW, HBe⟩ := hrel
    obtain ⟨Av, cv, rfl, hcv⟩ := HW.out.slc
    obtain ⟨q, hq⟩ : ∃ q, L.length = q := ⟨_, rfl⟩
    have hqk : q ≤ k := by rw [← hq]; exact HS.out.2.1
    rw [hq] at HW
    by_cases hkn : k < n
    · have hkI : (k : Int) < (n : Int) := by omega
      obtain ⟨A1, n1, c1, hn1, hle1, hrun1, hrd1⟩ := cutF (P := Try.prog) 23 5 .i64 Try.underlying23 info_size A n c k (by omega) hc
      have hr1 : RdN wr ok .u8 A1 n1 (b.drop k) := RdV.nums_drop (hrd1 wr ok _ (RdV.keep HR.out (Keep.of_below HBe.out (fun _ => False)) (fun _ _ h => h)))
      obtain ⟨x, ps, m, e, hu⟩ : ∃ x ps m e, unf (b.drop k) = (x, ps, m, e) := ⟨_, _, _, _, rfl⟩
      have HU := Held.mk (unframe_any ok A1 n1 c1 (b.drop k) wr hr1 hle1 (by have := hn1.out; omega) (HBy.out.drop k))
      rw [hu] at HU
      simp only at HU
      have HUu := Held.mk hu
      rw [hq]
      clear hr1 hrd1 hu
      by_cases he : e = .ok
      · subst he
        have hz0 : Er.enc .ok = .nilIface := rfl
        rw [hz0] at HU
        clear hz0
        by_cases hx : x = q + 1
        · subst hx
          have hN := Held.mk (HS.out.next HBy.out (by rw [HLn.out]; exact hkn) (by rw [hq]; exact HUu.out))
          have hm1 : 1 ≤ m := hN.out.2.1
          have hm2 : k + m ≤ n := by rw [← HLn.out]; exact hN.out.2.2
          have hps : Held (ps.length ≤ 65536) := ⟨(unf_fits _ (HBy.out.drop k) _ _ _ HUu.out).2.2.1⟩
          go_wp2_with fail
          refine HU.out.mono ?_
          rintro e w1 ⟨u0, rfl, ho0, hb0⟩
          obtain ⟨Au0, cu0, rfl, hcu0, hr0⟩ := rd_own ho0
          have HOw := Held.mk (own_any _ Au0 ps.length cu0 ps w1 hr0 (by have := hps.out; omega))
          have HB0 := Held.mk hb0
          clear ho0 hb0 hr0 hrun1
          go_wp2_with fail
          refine HOw.out.mono ?_
          rintro e w2 ⟨u, rfl, ⟨ho1, Au, rfl⟩, hb1⟩
          have hba : Below wr.heap.size wr (w2.alloc (.cells #[.slice Au ps.length ps.length] 23)) := (HB0.out.trans (hb1.mono HB0.out.size)).alloc (Nat.le_trans HB0.out.size hb1.size) _
          have hoa := own_rebase (((Keep.refl (fun _ => False) w2).alloc (.cells #[.slice Au ps.length ps.length] 23)).own ho1 (fun _ _ h => h)) (fun k hk => Nat.le_trans HB0.out.size (own_ge ho1 k hk))
          obtain ⟨cells, hcs, hnx⟩ := HW.out.snoc HBe.out.size hba hoa
          rw [hq] at hcs hnx
          have Hcs := Held.mk hcs
          have Hnx := Held.mk hnx
          have HRd := Held.mk (rd_new w2 [.slice Au ps.length ps.length] 1 23 rfl)
          have HC3 : Held (((q + 1) + (q + 1) / 4 + 192) * 24 ≤ 281474976710656) := ⟨by omega⟩
          have HC4 : Held (w.heap.size ≤ (w2.alloc (.cells #[.slice Au ps.length ps.length] 23)).heap.size) := ⟨Nat.le_trans HBe.out.size hba.size⟩
          have HBa := Held.mk (HBe.out.trans (hba.mono HBe.out.size))
          clear ho1 hb1 hba hoa hcs hnx HOw
          go_wp2_with ((at_builtin; go_loud (refine appS _ w.heap.size rfl (.tmp 39) (.tmp 42) 22 23 (.slice none 0 0) 1 24 rfl Try.underlying22 info_rows rfl (by decide) (by decide) _ q cells rfl Hcs.out (fun _ => True) (some ⟨w2.heap.size, 0, none⟩) 1 1 [.slice Au ps.length ps.length] rfl HRd.out (by simp [Value.oneCell']) HC3.out HC4.out ?_)); (intro v2 w3 ho3 hg3 hat3); (have HN3 := Held.mk (Hnx.out _ _ ho3 hg3)); (have HG3 := Held.mk (Keep.of_grown hg3)); (clear ho3 hg3 hat3))
          go_roundw
          case rel => exact ⟨k + m, L ++ [ps], by go_num, by omega, ⟨hN.out.1⟩, HN3, ⟨((Keep.of_below HBa.out (fun k => w.heap.size ≤ k)).then HG3.out (fun i _ e => HW.out.ge i e)).to_below (fun i hi h => by omega)⟩⟩
          case measure => simp [intOf]; omega
        · have hxI : ¬ (x : Int) = (q : Int) + 1 := by omega
          have HEq := Held.mk (HS.out.num (by rw [HLn.out]; exact hkn) HUu.out (by rw [hq]; exact hx))
          clear hx
          go_wp2_with fail
          refine HU.out.mono ?_
          rintro e w1 ⟨u, rfl, ho1, hb1⟩
          have HB1 := Held.mk hb1
          clear ho1 hb1 hrun1
          go_wp2_with fail
          go_ret3
          rw [HEq.out]
          exact ⟨_, rfl, HW.out.below HB1.out, HBe.out.trans (HB1.out.mono HBe.out.size)⟩
      · have HEq := Held.mk (HS.out.bad (by rw [HLn.out]; exact hkn) HUu.out he)
        have HE : Held ((Jr.w e).enc = e.enc) := ⟨rfl⟩
        obtain ⟨T, v, hec⟩ : ∃ T v, e.enc = .iface T v := by
          cases e with
          | ok => exact absurd rfl he
          | no j => exact ⟨_, _, rfl⟩
          | ref s j => exact ⟨_, _, rfl⟩
        rw [hec] at HU HE
        clear hec
        go_wp2_with fail
        refine HU.out.mono ?_
        rintro e' w1 ⟨u, rfl, ho1, hb1⟩
        have HB1 := Held.mk hb1
        clear ho1 hb1 hrun1
        go_wp2_with fail
        go_ret3
        rw [HEq.out]
        exact ⟨_, by simp only [HE.out]; rfl, HW.out.below HB1.out, HBe.out.trans (HB1.out.mono HBe.out.size)⟩
    · have hkI : ¬ (k : Int) < (n : Int) := by omega
      have HEq := Held.mk (HS.out.done (by rw [HLn.out]; exact hkn))
      rw [hq]
      go_wp2_with fail
      go_ret3
      rw [HEq.out]
      exact ⟨_, rfl, HW.out, HBe.out⟩
end Jrn
end Go.Proofs.Ytihgmlcmdpmhhaa
