/- Frame: walked. -/
import Derived.Test.YtihgmlcmdpmhhaaWri
import Derived.Test.YtihgmlcmdpmhhaaSum
import Derived.Test.YtihgmlcmdpmhhaaNum
import Derived.Test.YtihgmlcmdpmhhaaApN
namespace Go.Proofs.Ytihgmlcmdpmhhaa
set_option linter.unusedVariables false
set_option linter.unusedSimpArgs false
namespace Wire
open Go.RowKit Mem Apn
/-- A frame, as bytes. -/
def frameL (x : Nat) (ps : List Int) : List Int := form ps.length ++ form x ++ hi (crc (form x ++ ps)) 4 ++ ps
def wPayload : ByteArray := ⟨#[97, 32, 112, 97, 121, 108, 111, 97, 100]⟩
def wFrame : ByteArray := ⟨#[97, 32, 102, 114, 97, 109, 101]⟩
theorem crc_lt (l : List Int) (h : Byt l) : crc l < 4294967296 := by
  unfold crc
  exact xor_lt _ _ (sumT_byt l h) (by decide)
set_option maxHeartbeats 1000000 in
set_option maxRecDepth 100000 in
theorem frame_no (x : Nat) (A : Option Addr) (n c : Nat) (w : World) (hn : 65536 < n) : Calls Try.prog 6 #[.int .u64 x, .slice A n c] w fun e w' => e = .returned (.tuple #[.slice none 0 0, Er.enc (.ref wPayload 5)]) ∧ w' = w := by
  have hnI : (65536 : Int) < (n : Int) := by omega
  clear hn
  go_enter Try.func6, Try.ntmps6
  go_wp2
  go_ret2
  exact ⟨rfl, rfl⟩
set_option maxHeartbeats 4000000 in
set_option maxRecDepth 100000 in
theorem frame_in (ok : Nat → Prop) (x : Nat) (A : Option Addr) (n c : Nat) (ps : List Int) (w : World) (hr : RdN w ok .u8 A n ps) (hn : n ≤ 65536) (hx : U64 x) (hb : Byt ps) :
    Calls Try.prog 6 #[.int .u64 x, .slice A n c] w fun e w' => ∃ v, e = .returned (.tuple #[v, .nilIface]) ∧ OwnN w' w.heap.size 5 .u8 v (frameL x ps) ∧ Below w.heap.size w w' := by
  have hlen := Held.mk hr.len
  have hfl := form_length x hx
  have hnU : U64 n := by unfold U64; omega
  have hfn := form_length n hnU
  have Hr := Held.mk (hr.lt (by decide))
  have HX := Held.mk hx
  have HNU := Held.mk hnU
  have HBf := Held.mk (Byt.form x hx)
  have HBa := Held.mk (HBf.out.append hb)
  have hnI : (n : Int) ≤ 65536 := by omega
  have HK := Held.mk (show ∀ (W : World), Below w.heap.size w W → RdN W _ .u8 A n ps from fun W hB => RdV.keep Hr.out (Keep.of_below hB (fun _ => False)) (fun _ _ h => h))
  unfold frameL
  rw [hlen.out]
  clear hr hx hb hnU
  go_enter Try.func6, Try.ntmps6
  go_wp2_with fail
  refine (put_any w.heap.size _ [] x w HX.out (by simp) (own_nil _ _ _ _) (Nat.le_refl _)).mono ?_
  rintro e w1 ⟨v1, rfl, ho1, hg1, hat1⟩
  rw [List.nil_append] at ho1
  obtain ⟨A1, c1, rfl, hc1, hr1⟩ := RdN.of_own ho1
  have HB1 : Held (Below w.heap.size w w1) := ⟨((Keep.refl (fun _ => False) w).grown hg1 (fun k hk e => by simp [Value.ownBlock] at e)).to_below (fun _ _ h => h)⟩
  have HR1 := Held.mk hr1
  have HO1 := Held.mk ho1
  clear ho1 hg1 hat1 hr1
  go_wp2_with fail
  refine (clone_any _ A1 _ c1 (form x) w1 HR1.out (by omega) hc1).mono ?_
  rintro e w2 ⟨v2, rfl, ho2, hb2⟩
  have HB2 := Held.mk (HB1.out.trans (hb2.mono HB1.out.size))
  have HB12 := Held.mk hb2
  have HR2 := Held.mk (HK.out _ HB2.out)
  have HO2 := Held.mk ho2
  have HC2 : Held ((((form x).length + n) + ((form x).length + n) / 4 + 192) * 1 ≤ 281474976710656) := ⟨by omega⟩
  have HD2 : Held (w1.heap.size ≤ w2.heap.size) := ⟨hb2.size⟩
  obtain ⟨A2, c2, rfl, _, _⟩ := RdN.of_own ho2
  clear ho2 hb2
  go_wp2_with ((at_builtin; go_loud (refine appN w1.heap.size rfl (.tmp 17) (.tmp 18) 23 5 .u8 1 rfl Try.underlying23 info_u8 (by decide) _ (form x) rfl HO2.out _ A n c ps rfl HR2.out HC2.out HD2.out ?_)); (intro v3 w3 ho3 hg3 hat3); (have HO3 := Held.mk ho3); (have HG3 := Held.mk hg3); (clear ho3 hg3 hat3))
  have HB3 : Held (Below w.heap.size w w3) := ⟨((Keep.of_below HB2.out (fun _ => False)).then (Keep.of_grown HG3.out) (fun k hk e => by have := own_ge HO2.out k e; have := HB1.out.size; omega)).to_below (fun _ _ h => h)⟩
  have HB13 : Held (Below w1.heap.size w1 w3) := ⟨((Keep.of_below HB12.out (fun _ => False)).then (Keep.of_grown HG3.out) (fun k hk e => by have := own_ge HO2.out k e; omega)).to_below (fun _ _ h => h)⟩
  obtain ⟨A3, c3, rfl, _, hr3⟩ := RdN.of_own HO3.out
  have hl3 : (form x ++ ps).length ≤ 140737488355328 := by rw [List.length_append, hlen.out]; omega
  refine (sum_any _ A3 _ c3 (form x ++ ps) w3 hr3 hl3 HBa.out).mono ?_
  rintro e w4 ⟨rfl, hb4⟩
  have HB4 := Held.mk (HB3.out.trans (hb4.mono HB3.out.size))
  have HR4 : Held (RdN w4 _ .u8 A1 (form x).length (form x)) := ⟨RdV.keep HR1.out (Keep.of_below (HB13.out.trans (hb4.mono HB13.out.size)) (fun _ => False)) (fun _ _ h => h)⟩
  have hwn : IntKind.u64.wrap (n : Int) = (n : Int) := by simp [IntKind.wrap, IntKind.signed, IntKind.bits]; omega
  have HCr := Held.mk (crc_lt (form x ++ ps) HBa.out)
  generalize hcq : crc (form x ++ ps) = cr at *
  have HCq := Held.mk hcq
  clear hcq
  have hcrI : (cr : Int) < 4294967296 := by have := HCr.out; omega
  clear hb4 hr3 hl3
  go_wp2_with fail
  refine (put_any w.heap.size _ [] n w4 HNU.out (by simp) (own_nil _ _ _ _) HB4.out.size).mono ?_
  rintro e w5 ⟨v5, rfl, ho5, hg5, hat5⟩
  rw [List.nil_append] at ho5
  have HB5 : Held (Below w.heap.size w w5) := ⟨((Keep.of_below HB4.out (fun _ => False)).grown hg5 (fun k hk e => by simp [Value.ownBlock] at e)).to_below (fun _ _ h => h)⟩
  have HR5 : Held (RdN w5 _ .u8 A1 (form x).length (form x)) := ⟨RdV.keep HR4.out (Keep.of_grown hg5) (fun _ _ h => by simp [Value.ownBlock] at h)⟩
  have HO5 := Held.mk ho5
  have HC5 : Held ((((form n).length + (form x).length) + ((form n).length + (form x).length) / 4 + 192) * 1 ≤ 281474976710656) := ⟨by omega⟩
  clear ho5 hg5 hat5 hwn
  go_wp2_with ((at_builtin; go_loud (refine appN w.heap.size rfl (.tmp 24) (.tmp 25) 23 5 .u8 1 rfl Try.underlying23 info_u8 (by decide) _ (form n) rfl HO5.out _ A1 _ c1 (form x) rfl HR5.out HC5.out HB5.out.size ?_)); (intro v6 w6 ho6 hg6 hat6); (have HO6 := Held.mk ho6); (have HG6 := Held.mk hg6); (clear ho6 hg6 hat6))
  have HB6 : Held (Below w.heap.size w w6) := ⟨((Keep.of_below HB5.out (fun _ => False)).then (Keep.of_grown HG6.out) (fun k hk e => by have := own_ge HO5.out k e; omega)).to_below (fun _ _ h => h)⟩
  have hl6 : (form n ++ form x).length ≤ 18 := by rw [List.length_append]; omega
  refine (high_any w.heap.size v6 (form n ++ form x) cr 4 w6 (by have := HCr.out; unfold U64; omega) (by omega) (by omega) HO6.out HB6.out.size).mono ?_
  rintro e w7 ⟨v7, rfl, ho7, hg7, hat7⟩
  have HB7 : Held (Below w.heap.size w w7) := ⟨((Keep.of_below HB6.out (fun _ => False)).then (Keep.of_grown hg7) (fun k hk e => by have := own_ge HO6.out k e; omega)).to_below (fun _ _ h => h)⟩
  have HO7 := Held.mk ho7
  have HR7 := Held.mk (HK.out _ HB7.out)
  have hl7 : (form n ++ form x ++ hi cr 4).length ≤ 22 := by rw [List.length_append, hi_length]; omega
  have HC7 : Held ((((form n ++ form x ++ hi cr 4).length + n) + ((form n ++ form x ++ hi cr 4).length + n) / 4 + 192) * 1 ≤ 281474976710656) := ⟨by omega⟩
  clear ho7 hg7 hat7 hl6 hl7
  go_wp2_with ((at_builtin; go_loud (refine appN w.heap.size rfl (.tmp 30) (.tmp 31) 23 5 .u8 1 rfl Try.underlying23 info_u8 (by decide) _ (form n ++ form x ++ hi cr 4) rfl HO7.out _ A n c ps rfl HR7.out HC7.out HB7.out.size ?_)); (intro v8 w8 ho8 hg8 hat8); (have HO8 := Held.mk ho8); (have HG8 := Held.mk hg8); (clear ho8 hg8 hat8))
  go_ret2
  rw [HCq.out]
  exact ⟨_, rfl, HO8.out, ((Keep.of_below HB7.out (fun _ => False)).then (Keep.of_grown HG8.out) (fun k hk e => by have := own_ge HO7.out k e; omega)).to_below (fun _ _ h => h)⟩
end Wire
end Go.Proofs.Ytihgmlcmdpmhhaa
