/- Order where all is well; two rows of numbers alike; works: walked. -/
import Derived.Test.YtgmanmbicoofgaaDoorOrw
namespace Go.Proofs.YtgmanmbicoofgaaDoor
set_option linter.unusedVariables false
set_option linter.unusedSimpArgs false
namespace Ord
open Go.RowKit Mem Grp
set_option maxHeartbeats 4000000 in
set_option maxRecDepth 100000 in
theorem Order_ok (n : Nat) (A Ap : Option Addr) (m c cp : Nat) (ps : List (Nat × Nat)) (prs : List Int) (ok okp : Nat → Prop) (w : World) (hn : n ≤ 4096) (hm : m = ps.length) (hb : m ≤ 17592186044416) (h : RdP w ok A ps) (hok : ∀ k, ok k → k < w.heap.size) (hp : ∀ p ∈ ps, p.1 < n ∧ p.2 < n)
    (hr : RdN w okp .i64 Ap n prs) (hokp : ∀ k, okp k → k < w.heap.size) (hl : (ord ps (fun i => prs.getD i 0) n).length = n) :
    Calls Tryd.prog 18 #[.int .i64 n, .slice A m c, .slice Ap n cp] w fun e w' => ∃ v, e = .returned (.tuple #[v, .nilIface]) ∧ w'.ownsRow w.heap.size 3 1 v n (ints (ord ps (fun i => prs.getD i 0) n)) ∧ Below w.heap.size w w' := by
  have HA := Held.mk h
  have HP := Held.mk hp
  have HO := Held.mk hok
  have HM := Held.mk hm
  have HR := Held.mk hr
  have HOp := Held.mk hokp
  have HL := Held.mk hl
  clear h hp hok hm hr hokp hl
  go_enter Tryd.func18, Tryd.ntmps18
  go_wp2_with fail
  refine (sized_ok n w hn).mono ?_
  rintro e w1 ⟨rfl, rfl⟩
  go_wp2_with fail
  refine (named_ok n A m c ps ok w1 HM.out (by omega) HA.out HO.out HP.out).mono ?_
  rintro e w2 ⟨rfl, hb2⟩
  have HB2 := Held.mk hb2
  clear hb2
  go_wp2_with fail
  refine (order_any n A Ap m c cp ps prs ok okp w2 hn HM.out hb (HA.out.keep (Keep.of_below HB2.out (fun _ => False)) (fun _ _ h => h)) (fun k hk => Nat.lt_of_lt_of_le (HO.out k hk) HB2.out.size) HP.out (HR.out.keep (Keep.of_below HB2.out (fun _ => False)) (fun _ _ h => h)) (fun k hk => Nat.lt_of_lt_of_le (HOp.out k hk) HB2.out.size)).mono ?_
  rintro e w3 ⟨v, rfl, ho3, hb3⟩
  have HO3 : Held (w3.ownsRow w1.heap.size 3 1 v n (ints (ord ps (fun i => prs.getD i 0) n))) := ⟨by
    rw [HL.out] at ho3
    exact own_rebase ho3 (fun k e => Nat.le_trans HB2.out.size (own_ge ho3 k e))⟩
  have HB3 : Held (Below w1.heap.size w1 w3) := ⟨HB2.out.trans (hb3.mono HB2.out.size)⟩
  have hde : decide ((ord ps (fun i => prs.getD i 0) n).length = n) = true := decide_eq_true HL.out
  rw [hde]
  clear ho3 hb3 HB2 hde
  go_wp2_with fail
  go_ret2
  exact ⟨v, rfl, HO3.out, HB3.out⟩
set_option maxHeartbeats 4000000 in
set_option maxRecDepth 100000 in
theorem sameInts_in (ok ok2 : Nat → Prop) (A A2 : Option Addr) (n c c2 : Nat) (zs : List Int) (w : World) (hr : RdN w ok .i64 A n zs) (hr2 : RdN w ok2 .i64 A2 n zs) (hn : n ≤ 30000000000000) :
    Calls Tryd.prog 12 #[.slice A n c, .slice A2 n c2] w fun e w' => e = .returned (.bool true) ∧ ∃ m, w' = w.drewN m := by
  have Hr := Held.mk hr
  have Hr2 := Held.mk hr2
  have hnI : (n : Int) ≤ 9223372036854775807 := by omega
  clear hr hr2 hn
  go_enter Tryd.func12, Tryd.ntmps12
  go_wp2_with fail
  go_loopw [5] (fun i wr => ∃ (k m : Nat), i = .int .i64 k ∧ k ≤ n ∧ wr = w.drewN m) (fun i _ => n - (intOf i).toNat)
  case atStart => exact ⟨0, 0, rfl, Nat.zero_le _, rfl⟩
  case round =>
    obtain ⟨k, m, rfl, hk, rfl⟩ := hrel
    by_cases hlt : k < n
    · obtain ⟨ad, rfl, h1⟩ := RdN.at_ Hr.out hlt
      obtain ⟨ad2, rfl, h2⟩ := RdN.at_ Hr2.out hlt
      generalize zs.getD k 0 = z at *
      go_wp2_with fail
      go_quiet (fail)
      go_wp2_with fail
      go_roundw
      case rel => exact ⟨k + 1, _, by go_num, by omega, rfl⟩
      case measure => simp [intOf]; omega
    · go_wp2
      go_ret
      exact ⟨rfl, _, rfl⟩
theorem rd_lit (w : World) (cs : List Value) (s n : Nat) (t : TypeId) (h : cs.length = n * s) : RdV (w.alloc (.cells cs.toArray t)) (fun b => b = w.heap.size) s (some ⟨w.heap.size, 0, none⟩) n cs :=
  ⟨h, fun _ => ⟨_, rfl, rfl, World.news_of_block (cs := cs.toArray) (t := t) (fr := (0, 0)) (heap_alloc_new _ _)⟩⟩
theorem nums_ints (F : List Nat) : nums .i64 (F.map fun k : Nat => (k : Int)) = ints F := by
  unfold nums ints
  rw [List.map_map]
  rfl
theorem Nr.rd {w : World} {base B n : Nat} {F : List Nat} (h : Nr w base B n F) : RdN w (fun k => k = B) .i64 (some ⟨B, 0, none⟩) n (F.map fun k : Nat => (k : Int)) := by
  obtain ⟨A, c, e, _, hr⟩ := RdV.of_own h
  injection e with e _ _
  subst e
  unfold RdN
  rw [nums_ints]
  exact hr.mono (fun k hk => by
    have : B = k := by simpa [Value.ownBlock] using hk
    exact this.symm)
set_option maxHeartbeats 4000000 in
set_option maxRecDepth 100000 in
theorem works_any (w : World) : Calls Tryd.prog 13 #[] w fun e w' => e = .returned (.bool true) ∧ Below w.heap.size w w' := by
  have H1 := Held.mk (groups_ok 3 (some ⟨w.heap.size, 0, none⟩) 1 1 [(2, 1)] (fun b => b = w.heap.size) (w.alloc (.cells #[.int .i64 2, .int .i64 1] 73)) (by omega) rfl (by omega) (rd_lit w [.int .i64 2, .int .i64 1] 2 1 _ rfl) (fun k hk => by simp; omega) (by simp))
  have hL1 : row 3 (leasts [(2, 1)] id) = [0, 1, 1] := by decide
  rw [hL1] at H1
  have HB1 : Held (Below w.heap.size w (w.alloc (.cells #[.int .i64 2, .int .i64 1] 73))) := ⟨(Below.refl _ _).alloc (Nat.le_refl _) _⟩
  have hL2 : ord [(1, 0)] (fun i => ([5, 1] : List Int).getD i 0) 2 = [1, 0] := by decide
  have HL2 := Held.mk hL2
  clear hL1 hL2
  go_enter Tryd.func13, Tryd.ntmps13
  go_wp2_with fail
  refine H1.out.mono ?_
  rintro e w1 ⟨C, rfl, hn1, hb1⟩
  have HB2 : Held (Below w.heap.size w w1) := ⟨HB1.out.trans (hb1.mono HB1.out.size)⟩
  have HN1 := Held.mk hn1
  clear hn1 hb1 H1 HB1
  have H2 := Held.mk (Order_ok 2 (some ⟨w1.heap.size, 0, none⟩) (some ⟨w1.heap.size + 1, 0, none⟩) 1 1 2 [(1, 0)] [5, 1] (fun b => b = w1.heap.size) (fun b => b = w1.heap.size + 1) ((w1.alloc (.cells #[.int .i64 1, .int .i64 0] 73)).alloc (.cells #[.int .i64 5, .int .i64 1] 3)) (by omega) rfl (by omega)
    (RdV.keep (rd_lit w1 [.int .i64 1, .int .i64 0] 2 1 _ rfl) ((Keep.refl (fun _ => False) _).alloc _) (fun _ _ h => h)) (fun k hk => by simp; omega) (by simp)
    (by have := rd_lit (w1.alloc (.cells #[.int .i64 1, .int .i64 0] 73)) [.int .i64 5, .int .i64 1] 1 2 3 rfl; simp at this; exact this) (fun k hk => by simp; omega) (by rw [HL2.out]; rfl))
  rw [HL2.out] at H2
  have HB3 : Held (Below w.heap.size w ((w1.alloc (.cells #[.int .i64 1, .int .i64 0] 73)).alloc (.cells #[.int .i64 5, .int .i64 1] 3))) := ⟨(HB2.out.alloc HB2.out.size _).alloc (by have := HB2.out.size; simp; omega) _⟩
  have HN2 : Held (Nr ((w1.alloc (.cells #[.int .i64 1, .int .i64 0] 73)).alloc (.cells #[.int .i64 5, .int .i64 1] 3)) (w.alloc (.cells #[.int .i64 2, .int .i64 1] 73)).heap.size C 3 [0, 1, 1]) := ⟨HN1.out.keep (((Keep.refl (fun _ => False) _).alloc _).alloc _) (fun h => h)⟩
  go_wp2_with fail
  refine H2.out.mono ?_
  rintro e w2 ⟨v, rfl, ho2, hb2⟩
  have HB4 : Held (Below w.heap.size w w2) := ⟨HB3.out.trans (hb2.mono HB3.out.size)⟩
  have HN3 := Held.mk (HN2.out.keep (Keep.of_below hb2 (fun _ => False)) (fun h => h))
  obtain ⟨A2, c2, rfl, _, hr2⟩ := RdV.of_own ho2
  have HR2 : Held (RdN w2 (fun k => (Value.slice A2 2 c2).ownBlock = some k) .i64 A2 2 [1, 0]) := ⟨hr2⟩
  have HR1 : Held (RdN w2 (fun k => k = C) .i64 (some ⟨C, 0, none⟩) 3 [0, 1, 1]) := ⟨Ord.Nr.rd HN3.out⟩
  clear H2 HB2 HB3 HN1 HN2 HN3 ho2 hb2 hr2
  have S1 := Held.mk (sameInts_in _ (fun b => b = w2.heap.size) (some ⟨C, 0, none⟩) (some ⟨w2.heap.size, 0, none⟩) 3 3 3 [0, 1, 1] (w2.alloc (.cells #[.int .i64 0, .int .i64 1, .int .i64 1] 3)) (HR1.out.keep ((Keep.refl (fun _ => False) _).alloc _) (fun _ _ h => h)) (rd_lit w2 [.int .i64 0, .int .i64 1, .int .i64 1] 1 3 _ rfl) (by omega))
  go_wp2_with fail
  refine S1.out.mono ?_
  rintro e w3 ⟨rfl, q, rfl⟩
  have S2 := Held.mk (sameInts_in _ (fun b => b = w2.heap.size + 1) A2 (some ⟨w2.heap.size + 1, 0, none⟩) 2 c2 2 [1, 0] ((((w2.alloc (.cells #[.int .i64 0, .int .i64 1, .int .i64 1] 3))).drewN q).alloc (.cells #[.int .i64 1, .int .i64 0] 3)) (HR2.out.keep ((((Keep.refl (fun _ => False) _).alloc _).drewN q).alloc _) (fun _ _ h => h)) (by have := rd_lit (((w2.alloc (.cells #[.int .i64 0, .int .i64 1, .int .i64 1] 3))).drewN q) [.int .i64 1, .int .i64 0] 1 2 3 rfl; simp at this; exact this) (by omega))
  have HB5 : Held (Below w.heap.size w ((((w2.alloc (.cells #[.int .i64 0, .int .i64 1, .int .i64 1] 3))).drewN q).alloc (.cells #[.int .i64 1, .int .i64 0] 3))) := ⟨(below_drewN_ (HB4.out.alloc HB4.out.size _) q).alloc (by have := HB4.out.size; simp; omega) _⟩
  go_wp2_with fail
  refine S2.out.mono ?_
  rintro e w4 ⟨rfl, q2, rfl⟩
  go_wp2_with fail
  go_ret
  exact ⟨rfl, below_drewN_ HB5.out _⟩
end Ord
end Go.Proofs.YtgmanmbicoofgaaDoor
