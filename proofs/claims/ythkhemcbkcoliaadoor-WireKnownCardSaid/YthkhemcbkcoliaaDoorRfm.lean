/- The document's Frame: walked. -/
import Derived.Test.YthkhemcbkcoliaaDoorRsz
import Derived.Test.YthkhemcbkcoliaaDoorFrm
import Derived.Test.YthkhemcbkcoliaaDoorUfm
import Derived.Test.YthkhemcbkcoliaaDoorRefSum
namespace Go.Proofs.YthkhemcbkcoliaaDoor
set_option linter.unusedVariables false
set_option linter.unusedSimpArgs false
namespace Wire
open Go.RowKit Mem Apn
set_option maxHeartbeats 1000000 in
set_option maxRecDepth 100000 in
theorem rframe_no (x : Nat) (A : Option Addr) (n c : Nat) (w : World) (hn : 65536 < n) : Calls Tryd.prog 27 #[.int .u64 x, .slice A n c] w fun e w' => e = .returned (.tuple #[.slice none 0 0, .int .i64 5]) ∧ w' = w := by
  have hnI : (65536 : Int) < (n : Int) := by omega
  clear hn
  go_enter Tryd.func27, Tryd.ntmps27
  go_wp2
  go_ret2
  exact ⟨rfl, rfl⟩
set_option maxHeartbeats 4000000 in
set_option maxRecDepth 100000 in
theorem rframe_in (ok : Nat → Prop) (x : Nat) (A : Option Addr) (n c : Nat) (ps : List Int) (w : World) (hr : RdN w ok .u8 A n ps) (hn : n ≤ 65536) (hx : U64 x) (hb : Byt ps) :
    Calls Tryd.prog 27 #[.int .u64 x, .slice A n c] w fun e w' => ∃ v, e = .returned (.tuple #[v, .int .i64 0]) ∧ OwnN w' w.heap.size 5 .u8 v (frameL x ps) ∧ Below w.heap.size w w' := by
  have hlen := Held.mk hr.len
  have hfl := form_length x hx
  have hnU : U64 n := by unfold U64; omega
  have hfn := form_length n hnU
  have Hr := Held.mk (hr.lt (by decide))
  have HX := Held.mk hx
  have HNU := Held.mk hnU
  have HBf := Held.mk (Byt.form x hx)
  have HBa := Held.mk (HBf.out.append hb)
  have hnI : (n : Int) ≤ 65536 := by omega
  have HK := Held.mk (show ∀ (W : World), Below w.heap.size w W → RdN W _ .u8 A n ps from fun W hB => RdV.keep Hr.out (Keep.of_below hB (fun _ => False)) (fun _ _ h => h))
  unfold frameL
  rw [hlen.out]
  have HC1 : Held ((((form x).length + n) + ((form x).length + n) / 4 + 192) * 1 ≤ 281474976710656) := ⟨by omega⟩
  generalize hfx : form x = fx at *
  have Hfx := Held.mk hfx
  clear hr hx hb hnU hfx
  go_enter Tryd.func27, Tryd.ntmps27
  go_wp2_with fail
  refine (rput_any w.heap.size _ [] x w HX.out (by simp) (own_nil _ _ _ _) (Nat.le_refl _)).mono ?_
  rintro e w1 ⟨v1, rfl, ho1, hg1, hat1⟩
  rw [List.nil_append, Hfx.out] at ho1
  obtain ⟨A1, c1, rfl, hc1, _⟩ := RdN.of_own ho1
  have HB1 : Held (Below w.heap.size w w1) := ⟨((Keep.refl (fun _ => False) w).grown hg1 (fun k hk e => by simp [Value.ownBlock] at e)).to_below (fun _ _ h => h)⟩
  have HO1 := Held.mk ho1
  have HR1 := Held.mk (HK.out _ HB1.out)
  clear ho1 hg1 hat1
  go_wp2_with ((at_builtin; go_loud (refine appN w.heap.size rfl (.tmp 16) (.tmp 17) 23 5 .u8 1 rfl Tryd.underlying23 info_u8 (by decide) _ fx rfl HO1.out _ A n c ps rfl HR1.out HC1.out HB1.out.size ?_)); (intro v3 w3 ho3 hg3 hat3); (have HO3 := Held.mk ho3); (have HG3 := Held.mk hg3); (clear ho3 hg3 hat3))
  have HB3 : Held (Below w.heap.size w w3) := ⟨((Keep.of_below HB1.out (fun _ => False)).then (Keep.of_grown HG3.out) (fun k hk e => by have := own_ge HO1.out k e; omega)).to_below (fun _ _ h => h)⟩
  obtain ⟨A3, n3, c3, rfl, hn3, hc3, hr3⟩ := rd_own HO3.out
  have HR3 := Held.mk hr3
  have HR3f : Held (RdN w3 _ .u8 A3 fx.length fx) := ⟨by
    have h1 := RdV.front hr3 (k := fx.length) (by rw [hn3.out, List.length_append]; omega)
    rw [Nat.mul_one] at h1
    unfold RdN
    rw [show (nums .u8 (fx ++ ps)).take fx.length = nums .u8 fx by simp [nums, List.map_append]] at h1
    exact h1⟩
  have hfc : fx.length ≤ c3 := by have := hn3.out; rw [List.length_append] at this; omega
  have hn3l : n3 ≤ 140737488355328 := by rw [hn3.out, List.length_append, hlen.out]; omega
  have hwn : IntKind.u64.wrap (n : Int) = (n : Int) := by simp [IntKind.wrap, IntKind.signed, IntKind.bits]; omega
  clear hr3
  refine (rput_any w.heap.size _ [] n w3 HNU.out (by simp) (own_nil _ _ _ _) HB3.out.size).mono ?_
  rintro e w5 ⟨v5, rfl, ho5, hg5, hat5⟩
  rw [List.nil_append] at ho5
  have HB5 : Held (Below w.heap.size w w5) := ⟨((Keep.of_below HB3.out (fun _ => False)).grown hg5 (fun k hk e => by simp [Value.ownBlock] at e)).to_below (fun _ _ h => h)⟩
  have HR5 : Held (RdN w5 _ .u8 A3 fx.length fx) := ⟨RdV.keep HR3f.out (Keep.of_grown hg5) (fun _ _ h => by simp [Value.ownBlock] at h)⟩
  have HR5a : Held (RdN w5 _ .u8 A3 n3 (fx ++ ps)) := ⟨RdV.keep HR3.out (Keep.of_grown hg5) (fun _ _ h => by simp [Value.ownBlock] at h)⟩
  have HD5 : Held (∀ k, (Value.slice A3 n3 c3).ownBlock = some k → v5.ownBlock ≠ some k) := ⟨fun k hk h2 => by
    have h1 := own_lt HO3.out k hk
    rcases hat5 with h5 | ⟨b, h5, h6⟩
    · rw [h5] at h2; simp [Value.ownBlock] at h2
    · rw [h5] at h2; injection h2 with h2; omega⟩
  have HO5 := Held.mk ho5
  have HC5 : Held ((((form n).length + fx.length) + ((form n).length + fx.length) / 4 + 192) * 1 ≤ 281474976710656) := ⟨by omega⟩
  clear ho5 hg5 hat5 hwn
  go_wp2_with ((at_builtin; go_loud (refine appN w.heap.size rfl (.tmp 23) (.tmp 26) 23 5 .u8 1 rfl Tryd.underlying23 info_u8 (by decide) _ (form n) rfl HO5.out _ A3 fx.length c3 fx rfl HR5.out HC5.out HB5.out.size ?_)); (intro v6 w6 ho6 hg6 hat6); (have HO6 := Held.mk ho6); (have HG6 := Held.mk hg6); (clear ho6 hg6 hat6))
  have HB6 : Held (Below w.heap.size w w6) := ⟨((Keep.of_below HB5.out (fun _ => False)).then (Keep.of_grown HG6.out) (fun k hk e => by have := own_ge HO5.out k e; omega)).to_below (fun _ _ h => h)⟩
  have HR6 : Held (RdN w6 _ .u8 A3 n3 (fx ++ ps)) := ⟨RdV.keep HR5a.out (Keep.of_grown HG6.out) (fun k h1 h2 => HD5.out k h1 h2)⟩
  refine (refSum_any _ A3 n3 c3 (fx ++ ps) w6 HR6.out hn3l HBa.out).mono ?_
  rintro e w7 ⟨rfl, rfl⟩
  have HCr := Held.mk (crc_lt (fx ++ ps) HBa.out)
  generalize hcq : crc (fx ++ ps) = cr at *
  have HCq := Held.mk hcq
  clear hcq
  have hl6 : (form n ++ fx).length ≤ 18 := by rw [List.length_append]; omega
  go_wp2_with fail
  refine (rputsum_any w.heap.size v6 (form n ++ fx) cr w6 HCr.out (by omega) HO6.out HB6.out.size).mono ?_
  rintro e w7 ⟨v7, rfl, ho7, hg7⟩
  have HB7 : Held (Below w.heap.size w w7) := ⟨((Keep.of_below HB6.out (fun _ => False)).then (Keep.of_grown hg7) (fun k hk e => by have := own_ge HO6.out k e; omega)).to_below (fun _ _ h => h)⟩
  have HO7 := Held.mk ho7
  have HR7 := Held.mk (HK.out _ HB7.out)
  have hl7 : (form n ++ fx ++ hi cr 4).length ≤ 22 := by rw [List.length_append, hi_length]; omega
  have HC7 : Held ((((form n ++ fx ++ hi cr 4).length + n) + ((form n ++ fx ++ hi cr 4).length + n) / 4 + 192) * 1 ≤ 281474976710656) := ⟨by omega⟩
  clear ho7 hg7 hl6 hl7
  go_wp2_with ((at_builtin; go_loud (refine appN w.heap.size rfl (.tmp 32) (.tmp 33) 23 5 .u8 1 rfl Tryd.underlying23 info_u8 (by decide) _ (form n ++ fx ++ hi cr 4) rfl HO7.out _ A n c ps rfl HR7.out HC7.out HB7.out.size ?_)); (intro v8 w8 ho8 hg8 hat8); (have HO8 := Held.mk ho8); (have HG8 := Held.mk hg8); (clear ho8 hg8 hat8))
  go_ret2
  rw [HCq.out]
  exact ⟨_, rfl, HO8.out, ((Keep.of_below HB7.out (fun _ => False)).then (Keep.of_grown HG8.out) (fun k hk e => by have := own_ge HO7.out k e; omega)).to_below (fun _ _ h => h)⟩
end Wire
end Go.Proofs.YthkhemcbkcoliaaDoor
