/- The document's Unframe, of a whole frame: walked. -/
import Derived.Test.YthkhemcbkcoliaaDoorRun
import Derived.Test.YthkhemcbkcoliaaDoorUfm
import Derived.Test.YthkhemcbkcoliaaDoorRfm
import Derived.Test.YthkhemcbkcoliaaDoorCpy
import Derived.Test.YthkhemcbkcoliaaDoorKept
import Derived.Deep.RegionHeld3
namespace Go.Proofs.YthkhemcbkcoliaaDoor
set_option linter.unusedVariables false
set_option linter.unusedSimpArgs false
namespace Wire
open Go.RowKit Mem Apn
set_option maxHeartbeats 2000000 in
set_option maxRecDepth 100000 in
theorem runframe_ok (ok : Nat → Prop) (A Ap Ak Al A1 : Option Addr) (n c sz m x k np cp nk ck nl cl n1 c1 : Nat) (pl ks ls : List Int) (w : World)
    (H1 : Held (Calls Tryd.prog 55 #[.slice A n c] w fun e w' => e = .returned (.tuple #[.int .u64 sz, .int .i64 m, .int .i64 0]) ∧ w = w'))
    (H2 : Held (Calls Tryd.prog 55 #[.slice A1 n1 c1] w fun e w' => e = .returned (.tuple #[.int .u64 x, .int .i64 k, .int .i64 0]) ∧ w = w'))
    (hrun1 : ∀ (W : World), (Instr.slice 23 (.slice A n c) (some (.int .i64 (m : Int))) none none).run Tryd.prog W = .ok (.slice A1 n1 c1) W)
    (hrunp : ∀ (W : World), (Instr.slice 23 (.slice A n c) (some (.int .i64 ((m : Int) + (k : Int) + 4))) (some (.int .i64 ((m : Int) + (k : Int) + 4 + (sz : Int)))) none).run Tryd.prog W = .ok (.slice Ap np cp) W)
    (hrunk : ∀ (W : World), (Instr.slice 23 (.slice A n c) (some (.int .i64 (m : Int))) (some (.int .i64 ((m : Int) + (k : Int)))) none).run Tryd.prog W = .ok (.slice Ak nk ck) W)
    (hrunl : ∀ (W : World), (Instr.slice 23 (.slice A n c) (some (.int .i64 ((m : Int) + (k : Int)))) (some (.int .i64 ((m : Int) + (k : Int) + 4))) none).run Tryd.prog W = .ok (.slice Al nl cl) W)
    (hszI : (0 : Int) ≤ sz) (hsI : (sz : Int) ≤ 65536) (hlep : np ≤ cp) (hlek : nk ≤ ck)
    (hw1 : IntKind.i64.wrap ((m : Int) + (k : Int)) = (m : Int) + (k : Int)) (hw2 : IntKind.i64.wrap ((m : Int) + (k : Int) + 4) = (m : Int) + (k : Int) + 4) (hw4 : IntKind.i64.wrap (sz : Int) = (sz : Int))
    (hw5 : IntKind.i64.wrap ((m : Int) + (k : Int) + 4 + (sz : Int)) = (m : Int) + (k : Int) + 4 + (sz : Int)) (hshI : (m : Int) + (k : Int) + 4 + (sz : Int) ≤ (n : Int)) (hshJ : (m : Int) + (k : Int) + 4 ≤ (n : Int))
    (HRp : Held (RdN w (fun b => ok b ∧ b < w.heap.size) .u8 Ap np pl)) (HRk : Held (RdN w (fun b => ok b ∧ b < w.heap.size) .u8 Ak nk ks)) (HRl : Held (RdN w (fun b => ok b ∧ b < w.heap.size) .u8 Al nl ls))
    (HNp : Held (np ≤ 1000000)) (HNk : Held (nk ≤ 1000000)) (HNl : Held (nl ≤ 8)) (HBx : Held (Byt (ks ++ pl)))
    (HC7 : Held ((ks.length + pl.length + (ks.length + pl.length) / 4 + 192) * 1 ≤ 281474976710656)) (HC8 : Held ((ks ++ pl).length ≤ 140737488355328))
    (HLc : Held (crc (ks ++ pl) < 4294967296)) (HSq : Held (decide (hi (crc (ks ++ pl)) 4 = ls) = true)) :
    Calls Tryd.prog 29 #[.slice A n c] w fun e w' => ∃ v, e = .returned (.tuple #[.int .u64 x, v, .int .i64 ((m : Int) + (k : Int) + 4 + (sz : Int)), .int .i64 0]) ∧ OwnN w' w.heap.size 5 .u8 v pl ∧ Below w.heap.size w w' := by
  generalize hcr : crc (ks ++ pl) = cr at *
  have HCr := Held.mk hcr
  have HSum : Held (∀ (ok' : Nat → Prop) A n c w, RdN w ok' .u8 A n (ks ++ pl) → n ≤ 140737488355328 → Calls Tryd.prog 53 #[.slice A n c] w fun e w' => e = .returned (.int .u32 cr) ∧ w = w') := ⟨fun ok' A n c w hr hl => by rw [← HCr.out]; exact refSum_any ok' A n c _ w hr hl HBx.out⟩
  have HSm : Held (∀ (o1 o2 : Nat → Prop) A9 n9 c9 W, RdN W o1 .u8 A9 n9 (hi cr 4) → RdN W o2 .u8 Al nl ls → Calls Tryd.prog 12 #[.slice A9 n9 c9, .slice Al nl cl] W fun e w' => e = .returned (.bool true) ∧ ∃ m, w' = W.drewN m) := ⟨fun o1 o2 A9 n9 c9 W h1 h2 => by
    have h := Kit.same_any o1 o2 A9 Al n9 nl c9 cl (hi cr 4) ls W h1 h2 (by have := h1.len; rw [hi_length] at this; omega) (by have := HNl.out; omega)
    rw [HSq.out] at h
    exact h⟩
  clear hcr
  go_enter Tryd.func29, Tryd.ntmps29
  go_wp2_with fail
  refine H1.out.mono ?_
  rintro e w1 ⟨rfl, rfl⟩
  go_wp2_with fail
  refine H2.out.mono ?_
  rintro e w1 ⟨rfl, rfl⟩
  go_wp2_with fail
  refine (copy_any _ Ak nk ck ks w HRk.out (by have := HNk.out; omega)).mono ?_
  rintro e w3 ⟨v3, rfl, ho3, hb3⟩
  have HO3 := Held.mk ho3
  have HB3 := Held.mk hb3
  have HRp3 : Held (RdN w3 _ .u8 Ap np pl) := ⟨RdV.keep HRp.out (Keep.of_below hb3 (fun _ => False)) (fun _ _ h => h)⟩
  clear ho3 hb3
  go_wp2_with fail
  refine (copy_any _ Ap np cp pl w3 HRp3.out (by have := HNp.out; omega)).mono ?_
  rintro e w4 ⟨v4, rfl, ho4, hb4⟩
  have HO4 := Held.mk ho4
  have HB34 := Held.mk hb4
  have HO34 := Held.mk ((Keep.of_below hb4 (fun _ => False)).own HO3.out (fun _ _ h => h))
  obtain ⟨A4, n4, c4, rfl, hn4, hc4, hr4⟩ := rd_own ho4
  have HR4 := Held.mk hr4
  have HC7b : Held ((ks.length + n4 + (ks.length + n4) / 4 + 192) * 1 ≤ 281474976710656) := ⟨by rw [hn4.out]; exact HC7.out⟩
  have HSz4 : Held (w.heap.size ≤ w4.heap.size) := ⟨Nat.le_trans HB3.out.size hb4.size⟩
  clear ho4 hb4 hr4
  go_wp2_with ((at_builtin; go_loud (refine appN w.heap.size rfl (.tmp 69) (.tmp 70) 23 5 .u8 1 rfl Tryd.underlying23 info_u8 (by decide) _ ks rfl HO34.out _ A4 n4 c4 pl rfl HR4.out HC7b.out HSz4.out ?_)); (intro v6 w6 ho6 hg6 hat6); (have HO6 := Held.mk ho6); (have HG6 := Held.mk hg6); (clear ho6 hg6 hat6))
  have HB6 : Held (Below w.heap.size w w6) := ⟨((Keep.of_below (HB3.out.trans (HB34.out.mono HB3.out.size)) (fun _ => False)).then (Keep.of_grown HG6.out) (fun kk hk e => by have := own_ge HO34.out kk e; omega)).to_below (fun _ _ h => h)⟩
  have HO46 : Held (OwnN w6 w.heap.size 5 .u8 (.slice A4 n4 c4) pl) := ⟨own_rebase ((Keep.of_grown HG6.out).own HO4.out (fun kk h1 h2 => by have := own_ge HO4.out kk h1; have := own_lt HO3.out kk h2; omega)) (fun kk hk => by have := own_ge HO4.out kk hk; have := HB3.out.size; omega)⟩
  obtain ⟨A6, n6, c6, rfl, hn6, hc6, hr6⟩ := rd_own HO6.out
  have HR6 : Held (∀ W, Below w6.heap.size w6 W → RdN W _ .u8 A6 n6 (ks ++ pl)) := ⟨fun W hB => RdV.keep hr6 (Keep.of_below hB (fun _ => False)) (fun _ _ h => h)⟩
  have HRl6 : Held (∀ W, Below w6.heap.size w6 W → RdN W _ .u8 Al nl ls) := ⟨fun W hB => RdV.keep HRl.out (Keep.of_below (HB6.out.trans (hB.mono HB6.out.size)) (fun _ => False)) (fun _ _ h => h)⟩
  have HL6 : Held (n6 ≤ 140737488355328) := ⟨Nat.le_trans (Nat.le_of_eq hn6.out) HC8.out⟩
  have hB : Below w6.heap.size w6 w6 := Below.refl _ _
  clear hr6
  go_wp2_with fail
  go_region_held3 (fun w' => True) (trivial)
    (first
      | (go_at_call 53; refine (HSum.out _ A6 n6 c6 _ (HR6.out _ (by first | exact hB | exact Aps.below_drw hB)) HL6.out).mono ?_; rintro e w7 ⟨rfl, rfl⟩)
      | (go_at_call 52; refine (rputsum_any w6.heap.size _ [] cr _ HLc.out (by simp) (own_nil _ _ _ _) (by first | exact hB.size | exact (Aps.below_drw hB).size)).mono ?_; rintro e w8 ⟨v8, rfl, ho8, hg8⟩; rw [List.nil_append] at ho8; have hB : Below w6.heap.size w6 w8 := ((Keep.of_below (by first | exact hB | exact Aps.below_drw hB) (fun _ => False)).then (Keep.of_grown hg8) (fun kk hk e => by simp [Value.ownBlock] at e)).to_below (fun _ _ h => h); obtain ⟨A8, n8, c8, rfl, hn8, hc8, hr8⟩ := rd_own ho8)
      | (go_at_call 12; refine (HSm.out _ _ A8 n8 c8 _ (by exact hr8) (HRl6.out _ (by first | exact hB | exact Aps.below_drw hB))).mono ?_; rintro e w9 ⟨rfl, m9, rfl⟩; have hB := Aps.below_drwN (by first | exact hB | exact Aps.below_drw hB) m9))
  have HOe := Held.mk ((Keep.of_below hB (fun _ => False)).own HO46.out (fun _ _ h => h))
  have HBe := Held.mk (HB6.out.trans (hB.mono HB6.out.size))
  clear hB ho8 hg8 hr8
  go_wp2
  (try simp only [Exit.inBlock, Exit.then])
  refine bodyPost_ret (results_tmp4 rfl _ _ _) rfl ?_
  exact ⟨_, rfl, HOe.out, HBe.out⟩
set_option maxHeartbeats 2000000 in
set_option maxRecDepth 100000 in
theorem runframe_sum (ok : Nat → Prop) (A Ap Ak Al A1 : Option Addr) (n c sz m x k np cp nk ck nl cl n1 c1 : Nat) (pl ks ls : List Int) (w : World)
    (H1 : Held (Calls Tryd.prog 55 #[.slice A n c] w fun e w' => e = .returned (.tuple #[.int .u64 sz, .int .i64 m, .int .i64 0]) ∧ w = w'))
    (H2 : Held (Calls Tryd.prog 55 #[.slice A1 n1 c1] w fun e w' => e = .returned (.tuple #[.int .u64 x, .int .i64 k, .int .i64 0]) ∧ w = w'))
    (hrun1 : ∀ (W : World), (Instr.slice 23 (.slice A n c) (some (.int .i64 (m : Int))) none none).run Tryd.prog W = .ok (.slice A1 n1 c1) W)
    (hrunp : ∀ (W : World), (Instr.slice 23 (.slice A n c) (some (.int .i64 ((m : Int) + (k : Int) + 4))) (some (.int .i64 ((m : Int) + (k : Int) + 4 + (sz : Int)))) none).run Tryd.prog W = .ok (.slice Ap np cp) W)
    (hrunk : ∀ (W : World), (Instr.slice 23 (.slice A n c) (some (.int .i64 (m : Int))) (some (.int .i64 ((m : Int) + (k : Int)))) none).run Tryd.prog W = .ok (.slice Ak nk ck) W)
    (hrunl : ∀ (W : World), (Instr.slice 23 (.slice A n c) (some (.int .i64 ((m : Int) + (k : Int)))) (some (.int .i64 ((m : Int) + (k : Int) + 4))) none).run Tryd.prog W = .ok (.slice Al nl cl) W)
    (hszI : (0 : Int) ≤ sz) (hsI : (sz : Int) ≤ 65536) (hlep : np ≤ cp) (hlek : nk ≤ ck)
    (hw1 : IntKind.i64.wrap ((m : Int) + (k : Int)) = (m : Int) + (k : Int)) (hw2 : IntKind.i64.wrap ((m : Int) + (k : Int) + 4) = (m : Int) + (k : Int) + 4) (hw4 : IntKind.i64.wrap (sz : Int) = (sz : Int))
    (hw5 : IntKind.i64.wrap ((m : Int) + (k : Int) + 4 + (sz : Int)) = (m : Int) + (k : Int) + 4 + (sz : Int)) (hshI : (m : Int) + (k : Int) + 4 + (sz : Int) ≤ (n : Int)) (hshJ : (m : Int) + (k : Int) + 4 ≤ (n : Int))
    (HRp : Held (RdN w (fun b => ok b ∧ b < w.heap.size) .u8 Ap np pl)) (HRk : Held (RdN w (fun b => ok b ∧ b < w.heap.size) .u8 Ak nk ks)) (HRl : Held (RdN w (fun b => ok b ∧ b < w.heap.size) .u8 Al nl ls))
    (HNp : Held (np ≤ 1000000)) (HNk : Held (nk ≤ 1000000)) (HNl : Held (nl ≤ 8)) (HBx : Held (Byt (ks ++ pl)))
    (HC7 : Held ((ks.length + pl.length + (ks.length + pl.length) / 4 + 192) * 1 ≤ 281474976710656)) (HC8 : Held ((ks ++ pl).length ≤ 140737488355328))
    (HLc : Held (crc (ks ++ pl) < 4294967296)) (HSq : Held (decide (hi (crc (ks ++ pl)) 4 = ls) = false)) :
    Calls Tryd.prog 29 #[.slice A n c] w fun e w' => ∃ v, e = .returned (.tuple #[.int .u64 0, v, .int .i64 0, .int .i64 7]) ∧ OwnN w' w.heap.size 5 .u8 v [] ∧ Below w.heap.size w w' := by
  generalize hcr : crc (ks ++ pl) = cr at *
  have HCr := Held.mk hcr
  have HSum : Held (∀ (ok' : Nat → Prop) A n c w, RdN w ok' .u8 A n (ks ++ pl) → n ≤ 140737488355328 → Calls Tryd.prog 53 #[.slice A n c] w fun e w' => e = .returned (.int .u32 cr) ∧ w = w') := ⟨fun ok' A n c w hr hl => by rw [← HCr.out]; exact refSum_any ok' A n c _ w hr hl HBx.out⟩
  have HSm : Held (∀ (o1 o2 : Nat → Prop) A9 n9 c9 W, RdN W o1 .u8 A9 n9 (hi cr 4) → RdN W o2 .u8 Al nl ls → Calls Tryd.prog 12 #[.slice A9 n9 c9, .slice Al nl cl] W fun e w' => e = .returned (.bool false) ∧ ∃ m, w' = W.drewN m) := ⟨fun o1 o2 A9 n9 c9 W h1 h2 => by
    have h := Kit.same_any o1 o2 A9 Al n9 nl c9 cl (hi cr 4) ls W h1 h2 (by have := h1.len; rw [hi_length] at this; omega) (by have := HNl.out; omega)
    rw [HSq.out] at h
    exact h⟩
  clear hcr
  go_enter Tryd.func29, Tryd.ntmps29
  go_wp2_with fail
  refine H1.out.mono ?_
  rintro e w1 ⟨rfl, rfl⟩
  go_wp2_with fail
  refine H2.out.mono ?_
  rintro e w1 ⟨rfl, rfl⟩
  go_wp2_with fail
  refine (copy_any _ Ak nk ck ks w HRk.out (by have := HNk.out; omega)).mono ?_
  rintro e w3 ⟨v3, rfl, ho3, hb3⟩
  have HO3 := Held.mk ho3
  have HB3 := Held.mk hb3
  have HRp3 : Held (RdN w3 _ .u8 Ap np pl) := ⟨RdV.keep HRp.out (Keep.of_below hb3 (fun _ => False)) (fun _ _ h => h)⟩
  clear ho3 hb3
  go_wp2_with fail
  refine (copy_any _ Ap np cp pl w3 HRp3.out (by have := HNp.out; omega)).mono ?_
  rintro e w4 ⟨v4, rfl, ho4, hb4⟩
  have HO4 := Held.mk ho4
  have HB34 := Held.mk hb4
  have HO34 := Held.mk ((Keep.of_below hb4 (fun _ => False)).own HO3.out (fun _ _ h => h))
  obtain ⟨A4, n4, c4, rfl, hn4, hc4, hr4⟩ := rd_own ho4
  have HR4 := Held.mk hr4
  have HC7b : Held ((ks.length + n4 + (ks.length + n4) / 4 + 192) * 1 ≤ 281474976710656) := ⟨by rw [hn4.out]; exact HC7.out⟩
  have HSz4 : Held (w.heap.size ≤ w4.heap.size) := ⟨Nat.le_trans HB3.out.size hb4.size⟩
  clear ho4 hb4 hr4
  go_wp2_with ((at_builtin; go_loud (refine appN w.heap.size rfl (.tmp 69) (.tmp 70) 23 5 .u8 1 rfl Tryd.underlying23 info_u8 (by decide) _ ks rfl HO34.out _ A4 n4 c4 pl rfl HR4.out HC7b.out HSz4.out ?_)); (intro v6 w6 ho6 hg6 hat6); (have HO6 := Held.mk ho6); (have HG6 := Held.mk hg6); (clear ho6 hg6 hat6))
  have HB6 : Held (Below w.heap.size w w6) := ⟨((Keep.of_below (HB3.out.trans (HB34.out.mono HB3.out.size)) (fun _ => False)).then (Keep.of_grown HG6.out) (fun kk hk e => by have := own_ge HO34.out kk e; omega)).to_below (fun _ _ h => h)⟩
  have HO46 : Held (OwnN w6 w.heap.size 5 .u8 (.slice A4 n4 c4) pl) := ⟨own_rebase ((Keep.of_grown HG6.out).own HO4.out (fun kk h1 h2 => by have := own_ge HO4.out kk h1; have := own_lt HO3.out kk h2; omega)) (fun kk hk => by have := own_ge HO4.out kk hk; have := HB3.out.size; omega)⟩
  obtain ⟨A6, n6, c6, rfl, hn6, hc6, hr6⟩ := rd_own HO6.out
  have HR6 : Held (∀ W, Below w6.heap.size w6 W → RdN W _ .u8 A6 n6 (ks ++ pl)) := ⟨fun W hB => RdV.keep hr6 (Keep.of_below hB (fun _ => False)) (fun _ _ h => h)⟩
  have HRl6 : Held (∀ W, Below w6.heap.size w6 W → RdN W _ .u8 Al nl ls) := ⟨fun W hB => RdV.keep HRl.out (Keep.of_below (HB6.out.trans (hB.mono HB6.out.size)) (fun _ => False)) (fun _ _ h => h)⟩
  have HL6 : Held (n6 ≤ 140737488355328) := ⟨Nat.le_trans (Nat.le_of_eq hn6.out) HC8.out⟩
  have hB : Below w6.heap.size w6 w6 := Below.refl _ _
  clear hr6
  go_wp2_with fail
  go_region_held3 (fun w' => True) (trivial)
    (first
      | (go_at_call 53; refine (HSum.out _ A6 n6 c6 _ (HR6.out _ (by first | exact hB | exact Aps.below_drw hB)) HL6.out).mono ?_; rintro e w7 ⟨rfl, rfl⟩)
      | (go_at_call 52; refine (rputsum_any w6.heap.size _ [] cr _ HLc.out (by simp) (own_nil _ _ _ _) (by first | exact hB.size | exact (Aps.below_drw hB).size)).mono ?_; rintro e w8 ⟨v8, rfl, ho8, hg8⟩; rw [List.nil_append] at ho8; have hB : Below w6.heap.size w6 w8 := ((Keep.of_below (by first | exact hB | exact Aps.below_drw hB) (fun _ => False)).then (Keep.of_grown hg8) (fun kk hk e => by simp [Value.ownBlock] at e)).to_below (fun _ _ h => h); obtain ⟨A8, n8, c8, rfl, hn8, hc8, hr8⟩ := rd_own ho8)
      | (go_at_call 12; refine (HSm.out _ _ A8 n8 c8 _ (by exact hr8) (HRl6.out _ (by first | exact hB | exact Aps.below_drw hB))).mono ?_; rintro e w9 ⟨rfl, m9, rfl⟩; have hB := Aps.below_drwN (by first | exact hB | exact Aps.below_drw hB) m9))
  have HOe := Held.mk ((Keep.of_below hB (fun _ => False)).own HO46.out (fun _ _ h => h))
  have HBe := Held.mk (HB6.out.trans (hB.mono HB6.out.size))
  clear hB ho8 hg8 hr8
  go_wp2
  (try simp only [Exit.inBlock, Exit.then])
  refine bodyPost_ret (results_tmp4 rfl _ _ _) rfl ?_
  exact ⟨_, rfl, own_nil _ _ _ _, HBe.out⟩
end Wire
end Go.Proofs.YthkhemcbkcoliaaDoor
